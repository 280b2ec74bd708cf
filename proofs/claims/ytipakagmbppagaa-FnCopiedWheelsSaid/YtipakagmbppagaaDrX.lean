/- Racks: what DrawRunRack draws: some rack, state and number. -/
import Derived.Test.YtipakagmbppagaaDrT
namespace Go.Proofs.Ytipakagmbppagaa
open Go.RowKit
attribute [local go_sem ↓] Go.wp_at_zero Go.wp_at_succ

theorem cell4 {w : World} {g : Nat} {t : TypeId} {a b c d : Int} (h : Blk w g t #[.int .i64 a, .int .i64 b, .int .i64 c, .int .i64 d]) : ∀ j, j < [a, b, c, d].length → w.cell? ⟨g, j, none⟩ = some (.int .i64 (ix [a, b, c, d] j)) := by
  intro j hj
  have hj' : j < 4 := hj
  rcases (show j = 0 ∨ j = 1 ∨ j = 2 ∨ j = 3 by omega) with rfl | rfl | rfl | rfl
  · exact h.cell 0 rfl
  · exact h.cell 1 rfl
  · exact h.cell 2 rfl
  · exact h.cell 3 rfl
/-- What a draw of rack, state and number leaves. -/
def RunPost (W : World) (e : Ending) (w' : World) : Prop := ∃ (v : Value) (ds : List Int) (wn m rd n : Int), e = .returned (.tuple #[.agg #[v, .int .i64 wn], .agg #[.int .i64 m, .int .i64 rd], .int .i64 n]) ∧ w'.ownsRow W.heap.size 2 1 v ds.length (I64 ds) ∧ ds.length ≤ 12 ∧ Below W.heap.size W w'

set_option maxRecDepth 100000 in
set_option maxHeartbeats 8000000 in
theorem DrawRunRack_any (vb : Value) (bs : List Int) (W : World) (hv : SlB W vb bs) :
    Calls Try.prog 66 #[vb] W (RunPost W) := by
  have HP : Hid (∀ e w', (∃ (v : Value) (ds : List Int) (wn m rd n : Int), e = .returned (.tuple #[.agg #[v, .int .i64 wn], .agg #[.int .i64 m, .int .i64 rd], .int .i64 n]) ∧ w'.ownsRow W.heap.size 2 1 v ds.length (I64 ds) ∧ ds.length ≤ 12 ∧ Below W.heap.size W w') → RunPost W e w') := fun e w' h => h
  have HV := Lib.hid (fun w (hb : Below W.heap.size W w) g (hg : w.heap.size = g) => l00From_b vb bs W w hv hb g hg)
  clear hv
  go_enter Try.func66, Try.ntmps66
  have HK := Lib.hid (bx2 W 27 34 #[.slice none 0 0, .int .i64 0] #[.int .i64 0, .int .i64 0])
  go_wp2_with fail
  refine (HV.out _ (by go_grown) (W.heap.size + 1 + 1) (by simp)).mono ?_
  rintro e w1 ⟨rfl, hs, hb1⟩
  have B0a := Lib.hid (HK.out.1.below hb1)
  have B1a := Lib.hid (HK.out.2.below hb1)
  have z1 : W.heap.size + 1 + 1 < w1.heap.size := hs.lt
  have HS1 := Lib.hid hs
  clear hs hb1 HK HV
  go_wp2_with fail
  refine (l21Draw_any W _ _ vb bs 0 HS1.out (by omega)).mono ?_
  rintro e w2 ⟨v, ds, wn, rfl, ho, hl, hs, hg2⟩
  obtain ⟨A, cv, rfl⟩ := own_form ho
  have B0b := Lib.hid (B0a.out.grown hg2 (by first | (simp; done) | (simp; omega) | omega))
  have B1b := Lib.hid (B1a.out.grown hg2 (by first | (simp; done) | (simp; omega) | omega))
  have z2 := hg2.size
  have HO := Lib.hid ho
  have HS2 := Lib.hid hs
  have HL := Lib.hid hl
  have NB : Hid (∀ (w : World) (base : Nat) (k : Nat) (h : w1.heap.size ≤ base ∨ True), w.ownsRow w1.heap.size 2 1 (.slice A ds.length cv) ds.length (I64 ds) → ((Value.slice A ds.length cv).ownBlock = none ∨ (Value.slice A ds.length cv).ownBlock ≠ some (W.heap.size + 1 + 1))) := by
    intro w _ _ _ h
    cases hv : (Value.slice A ds.length cv).ownBlock with
    | none => exact Or.inl rfl
    | some j => exact Or.inr fun e => by have := (h.lt j hv).1; cases e; omega
  clear hs hg2 ho hl HS1 B0a B1a
  have dw : Below w2.heap.size w2 (w2.alloc (.cells #[.slice A ds.length cv, .int .i64 wn] 27)) := by go_grown
  have B0c := Lib.hid (B0b.out.below dw)
  have B1c := Lib.hid (B1b.out.below dw)
  have Rc : Hid (Blk (w2.alloc (.cells #[.slice A ds.length cv, .int .i64 wn] 27)) w2.heap.size 27 #[.slice A ds.length cv, .int .i64 wn]) := Blk.new _ _ _
  have Oc := Lib.hid (own_below HO.out dw)
  have Sc := Lib.hid (HS2.out.below dw)
  clear dw
  go_wp2_with fail
  refine (l21DrawState_any W _ _ vb bs _ Sc.out (by omega) _ ds wn w1.heap.size Oc.out (by omega)).mono ?_
  rintro e w3 ⟨m, rd, rfl, hs, hg3⟩
  have z3 := hg3.size
  simp only [World.size_alloc] at z3
  have dw : Below w3.heap.size w3 (w3.alloc (.cells #[.int .i64 m, .int .i64 rd] 34)) := by go_grown
  have B0d := Lib.hid ((B0c.out.grown hg3 (by first | (simp; done) | (simp; omega) | omega)).below dw)
  have B1d := Lib.hid ((B1c.out.grown hg3 (by first | (simp; done) | (simp; omega) | omega)).below dw)
  have Rd := Lib.hid ((Rc.out.grown hg3 (by first | (simp; done) | (simp; omega) | omega)).below dw)
  have S2d : Hid (Blk (w3.alloc (.cells #[.int .i64 m, .int .i64 rd] 34)) w3.heap.size 34 #[.int .i64 m, .int .i64 rd]) := Blk.new _ _ _
  have Od := Lib.hid (own_below (Oc.out.kept hg3 (NB.out _ 0 0 (Or.inr trivial) Oc.out)) dw)
  have Sd := Lib.hid (hs.below dw)
  clear hs hg3 dw
  go_wp2_with fail
  refine (pick_any W _ _ vb bs _ Sd.out (by omega) _ (by omega)).mono ?_
  rintro e w4 ⟨n, hn, rfl, hs, hg4⟩
  have B0e := Lib.hid (B0d.out.grown hg4 (by first | (simp; done) | (simp; omega) | omega))
  have B1e := Lib.hid (B1d.out.grown hg4 (by first | (simp; done) | (simp; omega) | omega))
  have Re := Lib.hid (Rd.out.grown hg4 (by first | (simp; done) | (simp; omega) | omega))
  have S2e := Lib.hid (S2d.out.grown hg4 (by first | (simp; done) | (simp; omega) | omega))
  have Oe := Lib.hid (Od.out.kept hg4 (NB.out _ 0 0 (Or.inr trivial) Od.out))
  have Se := Lib.hid hs
  have z4 := hg4.size
  simp only [World.size_alloc] at z4
  clear hs hg4 hn
  go_wp2_with fail
  refine (one_any W _ _ vb bs _ Se.out (by omega) _ (by omega)).mono ?_
  rintro e w5 ⟨b, rfl, hs, hg5⟩
  have B0f := Lib.hid (B0e.out.grown hg5 (by first | (simp; done) | (simp; omega) | omega))
  have B1f := Lib.hid (B1e.out.grown hg5 (by first | (simp; done) | (simp; omega) | omega))
  have Rf := Lib.hid (Re.out.grown hg5 (by first | (simp; done) | (simp; omega) | omega))
  have S2f := Lib.hid (S2e.out.grown hg5 (by first | (simp; done) | (simp; omega) | omega))
  have Of := Lib.hid (Oe.out.kept hg5 (NB.out _ 0 0 (Or.inr trivial) Oe.out))
  have Sf := Lib.hid hs
  have z5 := hg5.size
  clear hs hg5
  have nn1 : ¬ w2.heap.size = W.heap.size := by omega
  have nn2 : ¬ w2.heap.size = W.heap.size + 1 := by omega
  have nn3 : ¬ w3.heap.size = W.heap.size := by omega
  have nn4 : ¬ w3.heap.size = W.heap.size + 1 := by omega
  cases b with
  | false =>
    have p0 := B0f.out.cell 0 rfl
    have p1 := B0f.out.cell 1 rfl
    have p2 := B1f.out.cell 0 rfl
    have p3 := B1f.out.cell 1 rfl
    have f0 := B0f.out.frozen 0
    have f1 := B0f.out.frozen 1
    have f2 := B1f.out.frozen 0
    have f3 := B1f.out.frozen 1
    have zp := B0f.out.lt
    have zq := B1f.out.lt
    have q0 := Rf.out.cell 0 rfl
    have q1 := Rf.out.cell 1 rfl
    have q2 := S2f.out.cell 0 rfl
    have q3 := S2f.out.cell 1 rfl
    have zr := Rf.out.lt
    have zs := S2f.out.lt
    go_wp2_with fail
    go_region
    all_goals
      go_wp2
      try simp only [Exit.inBlock, Exit.then]
      refine bodyPost_ret (v := .tuple #[.agg #[.slice A ds.length cv, .int .i64 wn], .agg #[.int .i64 m, .int .i64 rd], .int .i64 n]) ?_ rfl ?_
      · simp [results, Try.results66, go_sem, p0, p1, p2, p3]
      · refine HP.out _ _ ⟨_, ds, _, _, _, _, rfl, ?_, HL.out, ?_⟩
        · first
          | exact own_mono (own_setCell (own_setCell (own_setCell (own_setCell Of.out (by first | (simp; done) | (simp; omega) | omega) _) (by first | (simp; done) | (simp; omega) | omega) _) (by first | (simp; done) | (simp; omega) | omega) _) (by first | (simp; done) | (simp; omega) | omega) _) (by first | (simp; done) | (simp; omega) | omega)
          | exact own_mono (own_setCell (own_setCell (own_setCell (own_setCell (own_drewN Of.out _) (by first | (simp; done) | (simp; omega) | omega) _) (by first | (simp; done) | (simp; omega) | omega) _) (by first | (simp; done) | (simp; omega) | omega) _) (by first | (simp; done) | (simp; omega) | omega) _) (by first | (simp; done) | (simp; omega) | omega)
          | exact own_mono (own_setCell (own_setCell (own_setCell (own_setCell Of.out.drew (by first | (simp; done) | (simp; omega) | omega) _) (by first | (simp; done) | (simp; omega) | omega) _) (by first | (simp; done) | (simp; omega) | omega) _) (by first | (simp; done) | (simp; omega) | omega) _) (by first | (simp; done) | (simp; omega) | omega)
        · first
          | exact (((Sf.out.old.setCell (by simp) _).setCell (by simp) _).setCell (by simp) _).setCell (by simp) _
          | exact ((((below_drewN Sf.out.old _).setCell (by simp) _).setCell (by simp) _).setCell (by simp) _).setCell (by simp) _
          | exact ((((Sf.out.below (below_drew' _)).old.setCell (by simp) _).setCell (by simp) _).setCell (by simp) _).setCell (by simp) _

  | true =>
    go_wp2_with fail
    have lw : Below w5.heap.size w5 (w5.alloc (.cells #[.int .i64 (-1), .int .i64 0, .int .i64 3000, .int .i64 3001] 2)) := by go_grown
    have k4 : Blk (w5.alloc (.cells #[.int .i64 (-1), .int .i64 0, .int .i64 3000, .int .i64 3001] 2)) w5.heap.size 2 #[.int .i64 (-1), .int .i64 0, .int .i64 3000, .int .i64 3001] := Blk.new _ _ _
    refine (among_any W _ _ vb bs _ (Sf.out.below lw) (by omega) w5.heap.size [-1, 0, 3000, 3001] 4 (by decide) (by have := Sf.out.lt; omega) (by decide) (by decide) (cell4 k4) k4.lt).mono ?_
    rintro e w6 ⟨x6, hx6, rfl, hs, hg6⟩
    have hg6' : w5.grownBy w6 (some (W.heap.size + 1 + 1)) := grown_trans (grown_of_below lw _) hg6
    have B0g := Lib.hid (B0f.out.grown hg6' (by first | (simp; done) | (simp; omega) | omega))
    have B1g := Lib.hid (B1f.out.grown hg6' (by first | (simp; done) | (simp; omega) | omega))
    have Rg := Lib.hid (Rf.out.grown hg6' (by first | (simp; done) | (simp; omega) | omega))
    have S2g := Lib.hid (S2f.out.grown hg6' (by first | (simp; done) | (simp; omega) | omega))
    have Og := Lib.hid (Of.out.kept hg6' (NB.out _ 0 0 (Or.inr trivial) Of.out))
    have Sg := Lib.hid hs
    clear hs hg6 hg6' lw k4 hx6
    have p0 := B0g.out.cell 0 rfl
    have p1 := B0g.out.cell 1 rfl
    have p2 := B1g.out.cell 0 rfl
    have p3 := B1g.out.cell 1 rfl
    have f0 := B0g.out.frozen 0
    have f1 := B0g.out.frozen 1
    have f2 := B1g.out.frozen 0
    have f3 := B1g.out.frozen 1
    have zp := B0g.out.lt
    have zq := B1g.out.lt
    have q0 := Rg.out.cell 0 rfl
    have q1 := Rg.out.cell 1 rfl
    have q2 := S2g.out.cell 0 rfl
    have q3 := S2g.out.cell 1 rfl
    have zr := Rg.out.lt
    have zs := S2g.out.lt
    go_wp2_with fail
    go_region
    all_goals
      go_wp2
      try simp only [Exit.inBlock, Exit.then]
      refine bodyPost_ret (v := .tuple #[.agg #[.slice A ds.length cv, .int .i64 wn], .agg #[.int .i64 m, .int .i64 rd], .int .i64 x6]) ?_ rfl ?_
      · simp [results, Try.results66, go_sem, p0, p1, p2, p3]
      · refine HP.out _ _ ⟨_, ds, _, _, _, _, rfl, ?_, HL.out, ?_⟩
        · first
          | exact own_mono (own_setCell (own_setCell (own_setCell (own_setCell Og.out (by first | (simp; done) | (simp; omega) | omega) _) (by first | (simp; done) | (simp; omega) | omega) _) (by first | (simp; done) | (simp; omega) | omega) _) (by first | (simp; done) | (simp; omega) | omega) _) (by first | (simp; done) | (simp; omega) | omega)
          | exact own_mono (own_setCell (own_setCell (own_setCell (own_setCell (own_drewN Og.out _) (by first | (simp; done) | (simp; omega) | omega) _) (by first | (simp; done) | (simp; omega) | omega) _) (by first | (simp; done) | (simp; omega) | omega) _) (by first | (simp; done) | (simp; omega) | omega) _) (by first | (simp; done) | (simp; omega) | omega)
          | exact own_mono (own_setCell (own_setCell (own_setCell (own_setCell Og.out.drew (by first | (simp; done) | (simp; omega) | omega) _) (by first | (simp; done) | (simp; omega) | omega) _) (by first | (simp; done) | (simp; omega) | omega) _) (by first | (simp; done) | (simp; omega) | omega) _) (by first | (simp; done) | (simp; omega) | omega)
        · first
          | exact (((Sg.out.old.setCell (by simp) _).setCell (by simp) _).setCell (by simp) _).setCell (by simp) _
          | exact ((((below_drewN Sg.out.old _).setCell (by simp) _).setCell (by simp) _).setCell (by simp) _).setCell (by simp) _
          | exact ((((Sg.out.below (below_drew' _)).old.setCell (by simp) _).setCell (by simp) _).setCell (by simp) _).setCell (by simp) _
end Go.Proofs.Ytipakagmbppagaa
