/- Chimes: what l22Bent draws: some barrel. -/
import Derived.Test.YtgaohmbgjjhdbaaGreatDoorDrB
namespace Go.Proofs.YtgaohmbgjjhdbaaGreatDoor
open Go.RowKit
attribute [local go_sem ↓] Go.wp_at_zero Go.wp_at_succ

theorem cell3B {w : World} {g : Nat} {t : TypeId} {a b c : Int} (h : Blk w g t #[.int .i64 a, .int .i64 b, .int .i64 c]) : ∀ j, j < [a, b, c].length → w.cell? ⟨g, j, none⟩ = some (.int .i64 (ix [a, b, c] j)) := by
  intro j hj
  match j, hj with
  | 0, _ => exact h.cell 0 rfl
  | 1, _ => exact h.cell 1 rfl
  | 2, _ => exact h.cell 2 rfl
theorem own_apartB {w : World} {base g : Nat} {v : Value} {n : Nat} {xs : List Value} {e : TypeId} (h : w.ownsRow base e 2 v n xs) (hg : g < base) : v.ownBlock = none ∨ v.ownBlock ≠ some g := by
  cases hv : v.ownBlock with
  | none => exact Or.inl rfl
  | some b => exact Or.inr fun e => by have := (h.lt b hv).1; cases e; omega
theorem P64_set1 : ∀ {ps : List (Int × Int)} {j : Nat}, j < ps.length → ∀ y : Int, (P64 ps).set (j * 2) (.int .i64 y) = P64 (ps.set j (y, (pi ps j).2))
  | p :: ps, 0, _, y => by simp [P64, pi]
  | p :: ps, j + 1, h, y => by
    have e2 : (j + 1) * 2 = j * 2 + 1 + 1 := by omega
    rw [e2]
    simp only [P64, List.set_cons_succ]
    rw [P64_set1 (by simpa using h)]
    simp [pi]
theorem P64_set2 : ∀ {ps : List (Int × Int)} {j : Nat}, j < ps.length → ∀ y : Int, (P64 ps).set (j * 2 + 1) (.int .i64 y) = P64 (ps.set j ((pi ps j).1, y))
  | p :: ps, 0, _, y => by simp [P64, pi]
  | p :: ps, j + 1, h, y => by
    have e2 : (j + 1) * 2 + 1 = j * 2 + 1 + 1 + 1 := by omega
    rw [e2]
    simp only [P64, List.set_cons_succ]
    rw [P64_set2 (by simpa using h)]
    simp [pi]
def BentOk (st bl : Int) (ps : List (Int × Int)) : Prop := (0 ≤ st ∧ st ≤ 65) ∧ (0 ≤ bl ∧ bl ≤ 9) ∧ ps.length ≤ 129

set_option maxRecDepth 100000 in
set_option maxHeartbeats 16000000 in
theorem l22Bent_any (W w : World) (g : Nat) (vb : Value) (bs : List Int) (k : Nat) (h : Src W w g vb bs k) (hk : k ≤ 10000) :
    Calls Tryz.prog 17 #[.pointer (some ⟨g, 0, none⟩)] w (BarPost W w g vb bs (k + 600) BentOk) := by
  have HP : Hid (∀ e w', (∃ (v : Value) (st bl : Int) (ps : List (Int × Int)), e = .returned (.agg #[.int .i64 st, .int .i64 bl, v]) ∧ w'.ownsRow w.heap.size 49 2 v ps.length (P64 ps) ∧ BentOk st bl ps ∧ Src W w' g vb bs (k + 600) ∧ w.grownBy w' (some g)) → BarPost W w g vb bs (k + 600) BentOk e w') := fun e w' h => h
  have hg := h.lt
  have hWg := h.2.1
  have HS := Lib.hid h
  clear h
  go_enter Tryz.func17, Tryz.ntmps17
  go_wp2_with fail
  refine (l22Draw_any W _ g vb bs k (HS.out.below (by go_grown)) (by omega)).mono ?_
  rintro e w1 ⟨v, st, bl, ps, rfl, ho, ⟨hbr, s12, b5, hl60⟩, hs, hg1⟩
  obtain ⟨⟨st1, _⟩, ⟨bl1, _⟩, _, _⟩ := brB_iff.1 hbr
  obtain ⟨A, C, rfl⟩ := own_form ho
  simp only [World.size_alloc] at ho
  have HNE : Hid (some w1.heap.size ≠ (Value.slice A ps.length C).ownBlock) := own_ne ho (Or.inr (Nat.le_refl _))
  have B1 : Hid (Blk w1 w.heap.size 26 #[.int .i64 0, .int .i64 0, .slice none 0 0]) := (Blk.new w _ _).grown hg1 (by first | (simp; done) | (simp; omega) | omega)
  have G1 : Hid (w.grownBy w1 (some g)) := grown_trans (grown_of_below (by go_grown) _) hg1
  have S1 := Lib.hid hs
  have O1 := Lib.hid ho
  have z1 : w.heap.size < w1.heap.size := B1.out.lt
  clear hs hg1 ho hbr
  have da : Below w1.heap.size w1 (w1.alloc (.cells #[.int .i64 st, .int .i64 bl, .slice A ps.length C] 26)) := by go_grown
  have C1 : Hid (Blk (w1.alloc (.cells #[.int .i64 st, .int .i64 bl, .slice A ps.length C] 26)) w1.heap.size 26 #[.int .i64 st, .int .i64 bl, .slice A ps.length C]) := Blk.new _ _ _
  have B2 := Lib.hid (B1.out.below da)
  have O2 := Lib.hid (own_below O1.out da)
  have S2 := Lib.hid (S1.out.below da)
  have G2 := Lib.hid (grown_trans G1.out (grown_of_below da _))
  clear da
  go_wp2_with fail
  refine (pick_any W _ g vb bs _ S2.out (by omega) _ (by omega)).mono ?_
  rintro e w3 ⟨x, ⟨x0, x1⟩, rfl, hs, hg3⟩
  obtain ⟨X, rfl⟩ := Int.eq_ofNat_of_zero_le x0
  have C3 := Lib.hid (C1.out.grown hg3 (by first | (simp; done) | (simp; omega) | omega))
  have B3 := Lib.hid (B2.out.grown hg3 (by first | (simp; done) | (simp; omega) | omega))
  have O3 := Lib.hid (O2.out.kept hg3 (own_apartB O2.out (by omega)))
  have S3 := Lib.hid hs
  have G3 := Lib.hid (grown_trans G2.out hg3)
  clear hs hg3 x0 C1 B2 O2 S2 G2 B1 O1 S1 G1
  go_wp2_with fail
  refine (pick_any W _ g vb bs _ S3.out (by omega) _ (by omega)).mono ?_
  rintro e w4 ⟨y, ⟨y0, y1⟩, rfl, hs, hg4⟩
  have C4 := Lib.hid (C3.out.grown hg4 (by first | (simp; done) | (simp; omega) | omega))
  have B4 := Lib.hid (B3.out.grown hg4 (by first | (simp; done) | (simp; omega) | omega))
  have O4 := Lib.hid (O3.out.kept hg4 (own_apartB O3.out (by omega)))
  have S4 := Lib.hid hs
  have G4 := Lib.hid (grown_trans G3.out hg4)
  clear hs hg4 C3 B3 O3 S3 G3
  have q0 := C4.out.cell 0 rfl
  have q1 := C4.out.cell 1 rfl
  have q2 := C4.out.cell 2 rfl
  have f0 := C4.out.frozen 0
  have f1 := C4.out.frozen 1
  have f2 := C4.out.frozen 2
  have z0 := C4.out.lt
  have n3 : ¬ w.heap.size = w1.heap.size := by omega
  have n4 : ¬ w1.heap.size = w.heap.size := by omega
  by_cases h0 : y = 0
  · subst h0
    have k3 := Blk.new w4 2 #[.int .i64 0, .int .i64 64, .int .i64 65]
    go_wp2_with fail
    refine (among_any W _ g vb bs _ (S4.out.below (by first | (with_reducible exact Below.refl _ _) | go_grown)) (by omega) w4.heap.size [0, 64, 65] 3 (by decide) (by have := S4.out.lt; omega) (by simp) (by simp) (by first | exact cell3B k3 | exact cell3B k3.drew) (by first | exact k3.lt | exact k3.drew.lt)).mono ?_
    clear k3
    rintro e w5 ⟨x6, hx6, rfl, hs5, hg5⟩
    have hx : 0 ≤ x6 ∧ x6 ≤ 65 := by simp at hx6; omega
    obtain ⟨hx0, hx1⟩ := hx
    have G5 : w4.grownBy w5 (some g) := grown_trans (grown_of_below (by go_grown) _) hg5
    have HG5 := Lib.hid (grown_trans G4.out G5)
    have B5 := Lib.hid (B4.out.grown G5 (by first | (simp; done) | (simp; omega) | omega))
    have C5 := Lib.hid (C4.out.grown G5 (by first | (simp; done) | (simp; omega) | omega))
    have O5 := Lib.hid (O4.out.kept G5 (own_apartB O4.out (by omega)))
    have HS5 := Lib.hid hs5
    clear hs5 hg5 G5 hx6 q0 q1 q2 f0 f1 f2 z0 B4 C4 O4 S4 G4
    have q0 := C5.out.cell 0 rfl
    have q1 := C5.out.cell 1 rfl
    have q2 := C5.out.cell 2 rfl
    have f0 := C5.out.frozen 0
    have f1 := C5.out.frozen 1
    have z0 := C5.out.lt
    have r0 := B5.out.cell 0 rfl
    have r1 := B5.out.cell 1 rfl
    have r2 := B5.out.cell 2 rfl
    have rf0 := B5.out.frozen 0
    have rf1 := B5.out.frozen 1
    have rf2 := B5.out.frozen 2
    have rz := B5.out.lt
    go_wp2
    try simp only [Exit.inBlock, Exit.then]
    refine bodyPost_ret (v := .agg #[.int .i64 x6, .int .i64 bl, .slice A ps.length C]) ?_ rfl ?_
    · simp [results, Tryz.results17, go_sem, *]
    · refine HP.out _ _ ⟨_, x6, bl, ps, rfl, own_mono (base := w.heap.size + 1) ?_ (by omega), ⟨⟨by omega, by omega⟩, ⟨by omega, by omega⟩, by omega⟩, ?_, ?_⟩
      · repeat (first | refine own_setCell ?_ (by first | (simp; done) | (simp; omega) | omega) _ | refine own_far ?_ HNE.out _)
        exact own_mono O5.out (by omega)
      · repeat (refine Src.setB ?_ (by first | (simp; done) | (simp; omega) | omega) (by first | (simp; done) | (simp; omega) | omega) _)
        exact HS5.out.mono (by omega)
      · repeat (refine grown_setB ?_ (by first | (simp; done) | (simp; omega) | omega) _)
        exact HG5.out
  · have hq0 : (y == 0) = false := by simpa using h0
    by_cases h1 : y = 1
    · subst h1
      have k3 := Blk.new w4 2 #[.int .i64 0, .int .i64 8, .int .i64 9]
      go_wp2_with fail
      refine (among_any W _ g vb bs _ (S4.out.below (by first | (with_reducible exact Below.refl _ _) | go_grown)) (by omega) w4.heap.size [0, 8, 9] 3 (by decide) (by have := S4.out.lt; omega) (by simp) (by simp) (by first | exact cell3B k3 | exact cell3B k3.drew) (by first | exact k3.lt | exact k3.drew.lt)).mono ?_
      clear k3
      rintro e w5 ⟨x6, hx6, rfl, hs5, hg5⟩
      have hx : 0 ≤ x6 ∧ x6 ≤ 9 := by simp at hx6; omega
      obtain ⟨hx0, hx1⟩ := hx
      have G5 : w4.grownBy w5 (some g) := grown_trans (grown_of_below (by go_grown) _) hg5
      have HG5 := Lib.hid (grown_trans G4.out G5)
      have B5 := Lib.hid (B4.out.grown G5 (by first | (simp; done) | (simp; omega) | omega))
      have C5 := Lib.hid (C4.out.grown G5 (by first | (simp; done) | (simp; omega) | omega))
      have O5 := Lib.hid (O4.out.kept G5 (own_apartB O4.out (by omega)))
      have HS5 := Lib.hid hs5
      clear hs5 hg5 G5 hx6 q0 q1 q2 f0 f1 f2 z0 B4 C4 O4 S4 G4
      have q0 := C5.out.cell 0 rfl
      have q1 := C5.out.cell 1 rfl
      have q2 := C5.out.cell 2 rfl
      have f0 := C5.out.frozen 0
      have f1 := C5.out.frozen 1
      have z0 := C5.out.lt
      have r0 := B5.out.cell 0 rfl
      have r1 := B5.out.cell 1 rfl
      have r2 := B5.out.cell 2 rfl
      have rf0 := B5.out.frozen 0
      have rf1 := B5.out.frozen 1
      have rf2 := B5.out.frozen 2
      have rz := B5.out.lt
      go_wp2
      try simp only [Exit.inBlock, Exit.then]
      refine bodyPost_ret (v := .agg #[.int .i64 st, .int .i64 x6, .slice A ps.length C]) ?_ rfl ?_
      · simp [results, Tryz.results17, go_sem, *]
      · refine HP.out _ _ ⟨_, st, x6, ps, rfl, own_mono (base := w.heap.size + 1) ?_ (by omega), ⟨⟨by omega, by omega⟩, ⟨by omega, by omega⟩, by omega⟩, ?_, ?_⟩
        · repeat (first | refine own_setCell ?_ (by first | (simp; done) | (simp; omega) | omega) _ | refine own_far ?_ HNE.out _)
          exact own_mono O5.out (by omega)
        · repeat (refine Src.setB ?_ (by first | (simp; done) | (simp; omega) | omega) (by first | (simp; done) | (simp; omega) | omega) _)
          exact HS5.out.mono (by omega)
        · repeat (refine grown_setB ?_ (by first | (simp; done) | (simp; omega) | omega) _)
          exact HG5.out
    · have hq1 : (y == 1) = false := by simpa using h1
      by_cases h2 : y = 2
      · subst h2
        by_cases hp0 : 0 < ps.length
        · obtain ⟨bv, cv, e0, _⟩ := O4.out.form (by omega)
          injection e0 with e0 _ _
          subst e0
          have hb1 := (O4.out.lt bv rfl).1
          have hnb : ¬ bv = w1.heap.size := fun e => HNE.out (by rw [e]; rfl)
          have hnb2 : ¬ w1.heap.size = bv := fun e => hnb e.symm
          have hX : X < ps.length := by omega
          have i0 : (0 : Int) < (ps.length : Int) := by omega
          have i1 : (X : Int) < (ps.length : Int) := by omega
          have ef : IntKind.i64.wrap (bl - 1) = bl - 1 := IntWalk.i64_in _ (by omega)
          have n5 : ¬ bv = w.heap.size := by omega
          have n6 : ¬ w.heap.size = bv := by omega
          go_wp2_with fail
          go_region_held3 (fun w' => w'.cell? ⟨w1.heap.size, 1, none⟩ = some (.int .i64 bl) ∧ w'.cell? ⟨w1.heap.size, 2, none⟩ = some (.slice (some ⟨bv, 0, none⟩) ps.length C)) (first | (with_reducible exact ⟨q1, q2⟩) | (with_reducible assumption) | ((try dsimp only); (simp [go_sem, *]; done)) | go_keep)
            (first
              | (go_at_call 41; (have k3 := Blk.new w4 2 #[.int .i64 (-1), .int .i64 (bl - 1), .int .i64 bl]); refine (among_any W _ g vb bs _ (S4.out.below (by first | (with_reducible exact Below.refl _ _) | go_grown)) (by omega) w4.heap.size [-1, bl - 1, bl] 3 (by decide) (by have := S4.out.lt; omega) (by simp) (by simp) (by first | exact cell3B k3 | exact cell3B k3.drew) (by first | exact k3.lt | exact k3.drew.lt)).mono ?_; clear k3; rintro e w5 ⟨x6, hx6, rfl, hs5, hg5⟩; have G5 : w4.grownBy w5 (some g) := (grown_trans (grown_of_below (by first | (with_reducible exact Below.refl _ _) | go_grown) _) hg5); have HG5 := Lib.hid (grown_trans G4.out G5); have B5 := Lib.hid (B4.out.grown G5 (by first | (simp; done) | (simp; omega) | omega)); have C5 := Lib.hid (C4.out.grown G5 (by first | (simp; done) | (simp; omega) | omega)); have t1 := C5.out.cell 1 rfl; have t2 := C5.out.cell 2 rfl; have tz := C5.out.lt; have r0 := B5.out.cell 0 rfl; have r1 := B5.out.cell 1 rfl; have r2 := B5.out.cell 2 rfl; have rf0 := B5.out.frozen 0; have rf1 := B5.out.frozen 1; have rf2 := B5.out.frozen 2; have rz := B5.out.lt; have u0 := C5.out.cell 0 rfl; have O5 := O4.out.kept G5 (own_apartB O4.out (by omega)); have co := O5.cellAt (X * 2 + 1) (by omega); rw [(P64_get hX).2] at co; have fz := O5.frozenAt (X * 2 + 1); have T5 := O5.stored (X * 2 + 1) (.int .i64 x6); rw [P64_set2 hX] at T5; have HT := Lib.hid T5.1; have HS5 := Lib.hid hs5; clear T5 O5 hs5 hg5 G5 hx6))
          all_goals
            go_wp2
            have hlen : (ps.set X ((pi ps X).1, x6)).length = ps.length := List.length_set ..
            try simp only [Exit.inBlock, Exit.then]
            refine bodyPost_ret (v := .agg #[.int .i64 st, .int .i64 bl, .slice (some ⟨bv, 0, none⟩) ps.length C]) ?_ rfl ?_
            · simp [results, Tryz.results17, go_sem, *]
            · refine HP.out _ _ ⟨_, st, bl, (ps.set X ((pi ps X).1, x6)), rfl, own_mono (base := w.heap.size + 1) ?_ (by omega), ⟨⟨by omega, by omega⟩, ⟨by omega, by omega⟩, by rw [hlen]; omega⟩, ?_, ?_⟩
              · rw [hlen]
                repeat (refine own_setCell ?_ (by first | (simp; done) | (simp; omega) | omega) _)
                exact own_mono HT.out (by omega)
              · repeat (refine Src.setB ?_ (by first | (simp; done) | (simp; omega) | omega) (by first | (simp; done) | (simp; omega) | omega) _)
                exact HS5.out.mono (by omega)
              · repeat (refine grown_setB ?_ (by first | (simp; done) | (simp; omega) | omega) _)
                exact HG5.out
        · have hp1 : ¬ (0 : Int) < (ps.length : Int) := by omega
          have r0 := B4.out.cell 0 rfl
          have r1 := B4.out.cell 1 rfl
          have r2 := B4.out.cell 2 rfl
          have rf0 := B4.out.frozen 0
          have rf1 := B4.out.frozen 1
          have rf2 := B4.out.frozen 2
          have rz := B4.out.lt
          go_wp2
          try simp only [Exit.inBlock, Exit.then]
          refine bodyPost_ret (v := .agg #[.int .i64 st, .int .i64 bl, .slice A ps.length C]) ?_ rfl ?_
          · simp [results, Tryz.results17, go_sem, *]
          · refine HP.out _ _ ⟨_, st, bl, ps, rfl, own_mono (base := w.heap.size + 1) ?_ (by omega), ⟨⟨by omega, by omega⟩, ⟨by omega, by omega⟩, by omega⟩, ?_, ?_⟩
            · repeat (first | refine own_setCell ?_ (by first | (simp; done) | (simp; omega) | omega) _ | refine own_far ?_ HNE.out _)
              exact own_mono O4.out (by omega)
            · repeat (refine Src.setB ?_ (by first | (simp; done) | (simp; omega) | omega) (by first | (simp; done) | (simp; omega) | omega) _)
              exact S4.out.mono (by omega)
            · repeat (refine grown_setB ?_ (by first | (simp; done) | (simp; omega) | omega) _)
              exact G4.out
      · have hq2 : (y == 2) = false := by simpa using h2
        by_cases h3 : y = 3
        · subst h3
          by_cases hp0 : 0 < ps.length
          · obtain ⟨bv, cv, e0, _⟩ := O4.out.form (by omega)
            injection e0 with e0 _ _
            subst e0
            have hb1 := (O4.out.lt bv rfl).1
            have hnb : ¬ bv = w1.heap.size := fun e => HNE.out (by rw [e]; rfl)
            have hnb2 : ¬ w1.heap.size = bv := fun e => hnb e.symm
            have hX : X < ps.length := by omega
            have i0 : (0 : Int) < (ps.length : Int) := by omega
            have i1 : (X : Int) < (ps.length : Int) := by omega
            have ef : IntKind.i64.wrap (st - 1) = st - 1 := IntWalk.i64_in _ (by omega)
            have n5 : ¬ bv = w.heap.size := by omega
            have n6 : ¬ w.heap.size = bv := by omega
            go_wp2_with fail
            go_region_held3 (fun w' => w'.cell? ⟨w1.heap.size, 0, none⟩ = some (.int .i64 st) ∧ w'.cell? ⟨w1.heap.size, 2, none⟩ = some (.slice (some ⟨bv, 0, none⟩) ps.length C)) (first | (with_reducible exact ⟨q0, q2⟩) | (with_reducible assumption) | ((try dsimp only); (simp [go_sem, *]; done)) | go_keep)
              (first
                | (go_at_call 41; (have k3 := Blk.new w4 2 #[.int .i64 (-1), .int .i64 (st - 1), .int .i64 st]); refine (among_any W _ g vb bs _ (S4.out.below (by first | (with_reducible exact Below.refl _ _) | go_grown)) (by omega) w4.heap.size [-1, st - 1, st] 3 (by decide) (by have := S4.out.lt; omega) (by simp) (by simp) (by first | exact cell3B k3 | exact cell3B k3.drew) (by first | exact k3.lt | exact k3.drew.lt)).mono ?_; clear k3; rintro e w5 ⟨x6, hx6, rfl, hs5, hg5⟩; have G5 : w4.grownBy w5 (some g) := (grown_trans (grown_of_below (by first | (with_reducible exact Below.refl _ _) | go_grown) _) hg5); have HG5 := Lib.hid (grown_trans G4.out G5); have B5 := Lib.hid (B4.out.grown G5 (by first | (simp; done) | (simp; omega) | omega)); have C5 := Lib.hid (C4.out.grown G5 (by first | (simp; done) | (simp; omega) | omega)); have t0 := C5.out.cell 0 rfl; have t2 := C5.out.cell 2 rfl; have tz := C5.out.lt; have r0 := B5.out.cell 0 rfl; have r1 := B5.out.cell 1 rfl; have r2 := B5.out.cell 2 rfl; have rf0 := B5.out.frozen 0; have rf1 := B5.out.frozen 1; have rf2 := B5.out.frozen 2; have rz := B5.out.lt; have u0 := C5.out.cell 1 rfl; have O5 := O4.out.kept G5 (own_apartB O4.out (by omega)); have co := O5.cellAt (X * 2) (by omega); rw [(P64_get hX).1] at co; have fz := O5.frozenAt (X * 2); have T5 := O5.stored (X * 2) (.int .i64 x6); rw [P64_set1 hX] at T5; have HT := Lib.hid T5.1; have HS5 := Lib.hid hs5; clear T5 O5 hs5 hg5 G5 hx6))
            all_goals
              go_wp2
              have hlen : (ps.set X (x6, (pi ps X).2)).length = ps.length := List.length_set ..
              try simp only [Exit.inBlock, Exit.then]
              refine bodyPost_ret (v := .agg #[.int .i64 st, .int .i64 bl, .slice (some ⟨bv, 0, none⟩) ps.length C]) ?_ rfl ?_
              · simp [results, Tryz.results17, go_sem, *]
              · refine HP.out _ _ ⟨_, st, bl, (ps.set X (x6, (pi ps X).2)), rfl, own_mono (base := w.heap.size + 1) ?_ (by omega), ⟨⟨by omega, by omega⟩, ⟨by omega, by omega⟩, by rw [hlen]; omega⟩, ?_, ?_⟩
                · rw [hlen]
                  repeat (refine own_setCell ?_ (by first | (simp; done) | (simp; omega) | omega) _)
                  exact own_mono HT.out (by omega)
                · repeat (refine Src.setB ?_ (by first | (simp; done) | (simp; omega) | omega) (by first | (simp; done) | (simp; omega) | omega) _)
                  exact HS5.out.mono (by omega)
                · repeat (refine grown_setB ?_ (by first | (simp; done) | (simp; omega) | omega) _)
                  exact HG5.out
          · have hp1 : ¬ (0 : Int) < (ps.length : Int) := by omega
            have r0 := B4.out.cell 0 rfl
            have r1 := B4.out.cell 1 rfl
            have r2 := B4.out.cell 2 rfl
            have rf0 := B4.out.frozen 0
            have rf1 := B4.out.frozen 1
            have rf2 := B4.out.frozen 2
            have rz := B4.out.lt
            go_wp2
            try simp only [Exit.inBlock, Exit.then]
            refine bodyPost_ret (v := .agg #[.int .i64 st, .int .i64 bl, .slice A ps.length C]) ?_ rfl ?_
            · simp [results, Tryz.results17, go_sem, *]
            · refine HP.out _ _ ⟨_, st, bl, ps, rfl, own_mono (base := w.heap.size + 1) ?_ (by omega), ⟨⟨by omega, by omega⟩, ⟨by omega, by omega⟩, by omega⟩, ?_, ?_⟩
              · repeat (first | refine own_setCell ?_ (by first | (simp; done) | (simp; omega) | omega) _ | refine own_far ?_ HNE.out _)
                exact own_mono O4.out (by omega)
              · repeat (refine Src.setB ?_ (by first | (simp; done) | (simp; omega) | omega) (by first | (simp; done) | (simp; omega) | omega) _)
                exact S4.out.mono (by omega)
              · repeat (refine grown_setB ?_ (by first | (simp; done) | (simp; omega) | omega) _)
                exact G4.out
        · have hq3 : (y == 3) = false := by simpa using h3
          by_cases h4 : y = 4
          · subst h4
            have HL0 : Hid (BaAt W w g vb bs (k + 210) w1.heap.size 64 3 (.slice none 0 0) [] (((w4.setCell ⟨w1.heap.size, 0, none⟩ (.int .i64 64)).setCell ⟨w1.heap.size, 1, none⟩ (.int .i64 3)).setCell ⟨w1.heap.size, 2, none⟩ (.slice none 0 0))) := by
              refine ⟨?_, C4.out.put3 _ _ _, World.ownsRow_nil _ _ _ _, ?_, ?_⟩
              · exact ((B4.out.far (by simp; omega) _).far (by simp; omega) _).far (by simp; omega) _
              · repeat (refine Src.setB ?_ (by first | (simp; done) | (simp; omega) | omega) (by first | (simp; done) | (simp; omega) | omega) _)
                exact S4.out.mono (by omega)
              · repeat (refine grown_setB ?_ (by first | (simp; done) | (simp; omega) | omega) _)
                exact G4.out
            clear B4 O4 S4 G4
            go_wp2_with fail
            clear f0 f1 q0 q1 q2 f2 z0 C4
            go_loopw [5] (fun i wr => ∃ (j : Nat) (vv : Value) (ps : List (Int × Int)), j ≤ 129 ∧ i = .int .i64 j ∧ ps.length = j ∧ BaAt W w g vb bs (k + 210 + 2 * j) w1.heap.size 64 3 vv ps wr) (fun i _ => 130 - (intOf i).toNat)
            case atStart => exact ⟨0, _, [], by omega, by go_num, rfl, HL0.out⟩
            case round =>
              clear HL0
              obtain ⟨j, vv, qs, hj, rfl, hl, hL⟩ := hrel
              have HL := Lib.hid hL
              clear hL
              go_wp2_with fail
              refine (pick_any W _ g vb bs _ HL.out.2.2.2.1 (by omega) _ (by omega)).mono ?_
              rintro e w5 ⟨u, ⟨u0, u1⟩, rfl, hs5, hg5⟩
              have HL1 := Lib.hid (HL.out.draw hg z1 hg5 hs5)
              clear hs5 hg5 HL
              have eu : IntKind.i64.wrap (128 + u) = 128 + u := IntWalk.i64_in _ (by omega)
              obtain ⟨Av, Cv, rfl⟩ := own_form HL1.out.2.2.1
              have q0 := HL1.out.2.1.cell 0 rfl
              have q1 := HL1.out.2.1.cell 1 rfl
              have q2 := HL1.out.2.1.cell 2 rfl
              have f2 := HL1.out.2.1.frozen 2
              have z0 := HL1.out.2.1.lt
              have HLN := Lib.hid hl
              by_cases hlt : (j : Int) < 128 + u
              · have hj8 : j < 129 := by omega
                have hpl : qs.length ≤ 134217728 := by omega
                have hz : w1.heap.size + 1 ≤ w5.heap.size := by omega
                have ed : (j : Int).tdiv 2 = (j : Int) / 2 := Int.tdiv_eq_ediv_of_nonneg (by omega)
                have em : (j : Int).tmod 2 = (j : Int) % 2 := Int.tmod_eq_emod_of_nonneg (by omega)
                have ed2 : IntKind.i64.wrap ((j : Int) / 2) = (j : Int) / 2 := IntWalk.i64_in _ (by omega)
                have em2 : IntKind.i64.wrap ((j : Int) % 2) = (j : Int) % 2 := IntWalk.i64_in _ (by omega)
                clear hl
                go_wp2_with (at_builtin; refine wpList_appPin rfl _ _ rfl (w1.heap.size + 1) _ qs rfl HL1.out.2.2.1 _ _ w5.heap.size rfl rfl hpl hz ?_; intro v' w6 hown' hb' hg'; obtain ⟨ps', A4, C4', g1, rfl, e0, e1⟩ := HL1.out.app hg z1 hown' hb' hg'; have f1 := e0.frozen 2; have q2 := e0.cell 2 rfl; have z4 := e0.lt; have E1 := Lib.hid e1; have HGL := Lib.hid g1; clear hown' hb' hg' e0 e1 g1)
                go_roundw
                case rel => exact ⟨j + 1, _, ps', by omega, by go_num, by rw [HGL.out]; simp [HLN.out], E1.out.mono (by omega)⟩
                case measure => simp [intOf]; omega
              · have hlen128 : 128 ≤ qs.length := by omega
                have hlen129 : qs.length ≤ 129 := by omega
                have HNE2 : Hid (some w1.heap.size ≠ (Value.slice Av qs.length Cv).ownBlock) := own_ne HL1.out.2.2.1 (Or.inl (Nat.lt_succ_self _))
                clear hl HNE
                have HNE := HNE2
                by_cases h129 : 128 < qs.length
                · obtain ⟨bv, cv, e0, _⟩ := HL1.out.2.2.1.form (by omega)
                  injection e0 with e0 _ _
                  subst e0
                  have hb1 := (HL1.out.2.2.1.lt bv rfl).1
                  have hb2 := (HL1.out.2.2.1.lt bv rfl).2
                  have i0 : (128 : Int) < (qs.length : Int) := by omega
                  have co1 := HL1.out.2.2.1.cellAt (128 * 2) (by omega)
                  have co2 := HL1.out.2.2.1.cellAt (128 * 2 + 1) (by omega)
                  rw [(P64_get h129).1] at co1
                  rw [(P64_get h129).2] at co2
                  have fz1 := HL1.out.2.2.1.frozenAt (128 * 2)
                  have fz2 := HL1.out.2.2.1.frozenAt (128 * 2 + 1)
                  have T1 := (HL1.out.2.2.1.stored (128 * 2) (.int .i64 63)).1
                  have T2 := (T1.stored (128 * 2 + 1) (.int .i64 2)).1
                  rw [P64_set h129] at T2
                  have HT := Lib.hid T2
                  have n5 : ¬ bv = w.heap.size := by omega
                  have n6 : ¬ w.heap.size = bv := by omega
                  have n7 : ¬ bv = w1.heap.size := by omega
                  have n8 : ¬ w1.heap.size = bv := by omega
                  clear T1 T2
                  have r0 := HL1.out.1.cell 0 rfl
                  have r1 := HL1.out.1.cell 1 rfl
                  have r2 := HL1.out.1.cell 2 rfl
                  have rf0 := HL1.out.1.frozen 0
                  have rf1 := HL1.out.1.frozen 1
                  have rf2 := HL1.out.1.frozen 2
                  have rz := HL1.out.1.lt
                  have co1' : w5.cell? ⟨bv, 256, none⟩ = _ := co1
                  have co2' : w5.cell? ⟨bv, 257, none⟩ = _ := co2
                  have fz1' : w5.frozen? ⟨bv, 256, none⟩ = _ := fz1
                  have fz2' : w5.frozen? ⟨bv, 257, none⟩ = _ := fz2
                  clear co1 co2 fz1 fz2
                  go_wp2
                  have hlen : (qs.set 128 (63, 2)).length = qs.length := List.length_set ..
                  try simp only [Exit.inBlock, Exit.then]
                  refine bodyPost_ret (v := .agg #[.int .i64 64, .int .i64 3, .slice (some ⟨bv, 0, none⟩) qs.length Cv]) ?_ rfl ?_
                  · simp [results, Tryz.results17, go_sem, *]
                  · refine HP.out _ _ ⟨_, 64, 3, qs.set 128 (63, 2), rfl, own_mono (base := w1.heap.size + 1) ?_ (by omega), ⟨⟨by omega, by omega⟩, ⟨by omega, by omega⟩, by rw [hlen]; omega⟩, ?_, ?_⟩
                    · rw [hlen]
                      repeat (refine own_setCell ?_ (by first | (simp; done) | (simp; omega) | omega) _)
                      exact HT.out
                    · repeat (refine Src.setB ?_ (by first | (simp; done) | (simp; omega) | omega) (by first | (simp; done) | (simp; omega) | omega) _)
                      exact HL1.out.2.2.2.1.mono (by omega)
                    · repeat (refine grown_setB ?_ (by first | (simp; done) | (simp; omega) | omega) _)
                      exact HL1.out.2.2.2.2
                · have i0 : ¬ (128 : Int) < (qs.length : Int) := by omega
                  have r0 := HL1.out.1.cell 0 rfl
                  have r1 := HL1.out.1.cell 1 rfl
                  have r2 := HL1.out.1.cell 2 rfl
                  have rf0 := HL1.out.1.frozen 0
                  have rf1 := HL1.out.1.frozen 1
                  have rf2 := HL1.out.1.frozen 2
                  have rz := HL1.out.1.lt
                  go_wp2
                  try simp only [Exit.inBlock, Exit.then]
                  refine bodyPost_ret (v := .agg #[.int .i64 64, .int .i64 3, .slice Av qs.length Cv]) ?_ rfl ?_
                  · simp [results, Tryz.results17, go_sem, *]
                  · refine HP.out _ _ ⟨_, 64, 3, qs, rfl, own_mono (base := w1.heap.size + 1) ?_ (by omega), ⟨⟨by omega, by omega⟩, ⟨by omega, by omega⟩, by omega⟩, ?_, ?_⟩
                    · repeat (first | refine own_setCell ?_ (by first | (simp; done) | (simp; omega) | omega) _ | refine own_far ?_ HNE.out _)
                      exact HL1.out.2.2.1
                    · repeat (refine Src.setB ?_ (by first | (simp; done) | (simp; omega) | omega) (by first | (simp; done) | (simp; omega) | omega) _)
                      exact HL1.out.2.2.2.1.mono (by omega)
                    · repeat (refine grown_setB ?_ (by first | (simp; done) | (simp; omega) | omega) _)
                      exact HL1.out.2.2.2.2
          · have hq4 : (y == 4) = false := by simpa using h4
            have r0 := B4.out.cell 0 rfl
            have r1 := B4.out.cell 1 rfl
            have r2 := B4.out.cell 2 rfl
            have rf0 := B4.out.frozen 0
            have rf1 := B4.out.frozen 1
            have rf2 := B4.out.frozen 2
            have rz := B4.out.lt
            go_wp2
            try simp only [Exit.inBlock, Exit.then]
            refine bodyPost_ret (v := .agg #[.int .i64 st, .int .i64 bl, .slice A ps.length C]) ?_ rfl ?_
            · simp [results, Tryz.results17, go_sem, *]
            · refine HP.out _ _ ⟨_, st, bl, ps, rfl, own_mono (base := w.heap.size + 1) ?_ (by omega), ⟨⟨by omega, by omega⟩, ⟨by omega, by omega⟩, by omega⟩, ?_, ?_⟩
              · repeat (first | refine own_setCell ?_ (by first | (simp; done) | (simp; omega) | omega) _ | refine own_far ?_ HNE.out _)
                exact own_mono O4.out (by omega)
              · repeat (refine Src.setB ?_ (by first | (simp; done) | (simp; omega) | omega) (by first | (simp; done) | (simp; omega) | omega) _)
                exact S4.out.mono (by omega)
              · repeat (refine grown_setB ?_ (by first | (simp; done) | (simp; omega) | omega) _)
                exact G4.out
end Go.Proofs.YtgaohmbgjjhdbaaGreatDoor
