/- Racks: what l21Both and the draws of the laws draw: some rack and state. -/
import Derived.Test.YtdlegcjcmhpbcaaDrS
namespace Go.Proofs.Ytdlegcjcmhpbcaa
open Go.RowKit
attribute [local go_sem ↓] Go.wp_at_zero Go.wp_at_succ

theorem below_drew' (w : World) : Below w.heap.size w w.drew := by go_grown
theorem l00From_b (v : Value) (bs : List Int) (W w : World) (hv : SlB W v bs) (hb : Below W.heap.size W w) (g : Nat) (hg : w.heap.size = g) :
    Calls Try.prog 32 #[v] w fun e w' => e = .returned (.pointer (some ⟨g, 0, none⟩)) ∧ Src W w' g v bs 0 ∧ Below w.heap.size w w' := by
  subst hg
  refine (l00From_any v bs w (hv.below hb)).mono fun e w' ⟨he, h1, h2, h3, a, s, ha, hs, hk⟩ => ⟨he, ⟨hv, hb.size, hb.trans (h3.mono hb.size), a, s, ha, hs, hk⟩, h3⟩
/-- What a draw of rack and state leaves. -/
def BothPost (W : World) (e : Ending) (w' : World) : Prop := ∃ (v : Value) (ds : List Int) (wn m rd : Int), e = .returned (.tuple #[.agg #[v, .int .i64 wn], .agg #[.int .i64 m, .int .i64 rd]]) ∧ w'.ownsRow W.heap.size 2 1 v ds.length (I64 ds) ∧ ds.length ≤ 12 ∧ Below W.heap.size W w'

set_option maxRecDepth 100000 in
set_option maxHeartbeats 8000000 in
theorem l21Both_any (vb : Value) (bs : List Int) (W : World) (hv : SlB W vb bs) :
    Calls Try.prog 16 #[vb] W (BothPost W) := by
  have HP : Hid (∀ e w', (∃ (v : Value) (ds : List Int) (wn m rd : Int), e = .returned (.tuple #[.agg #[v, .int .i64 wn], .agg #[.int .i64 m, .int .i64 rd]]) ∧ w'.ownsRow W.heap.size 2 1 v ds.length (I64 ds) ∧ ds.length ≤ 12 ∧ Below W.heap.size W w') → BothPost W e w') := fun e w' h => h
  have HV := Lib.hid (fun w (hb : Below W.heap.size W w) g (hg : w.heap.size = g) => l00From_b vb bs W w hv hb g hg)
  clear hv
  go_enter Try.func16, Try.ntmps16
  have HK := Lib.hid (bx2 W 26 28 #[.slice none 0 0, .int .i64 0] #[.int .i64 0, .int .i64 0])
  go_wp2_with fail
  refine (HV.out _ (by go_grown) (W.heap.size + 1 + 1) (by simp)).mono ?_
  rintro e w1 ⟨rfl, hs, hb1⟩
  have B0 := Lib.hid (HK.out.1.below hb1)
  have B1 := Lib.hid (HK.out.2.below hb1)
  have z1 : W.heap.size + 1 + 1 < w1.heap.size := hs.lt
  have HS1 := Lib.hid hs
  clear hs hb1 HK HV
  go_wp2_with fail
  refine (l21Draw_any W _ _ vb bs 0 HS1.out (by omega)).mono ?_
  rintro e w2 ⟨v, ds, wn, rfl, ho, hl, hs, hg2⟩
  obtain ⟨A, cv, rfl⟩ := own_form ho
  have C0 := Lib.hid (B0.out.grown hg2 (by first | (simp; done) | (simp; omega)))
  have C1 := Lib.hid (B1.out.grown hg2 (by first | (simp; done) | (simp; omega)))
  have z2 := hg2.size
  have HO := Lib.hid ho
  have HS2 := Lib.hid hs
  have HL := Lib.hid hl
  clear hs hg2 B0 B1 ho hl HS1
  have dw : Below w2.heap.size w2 (w2.alloc (.cells #[.slice A ds.length cv, .int .i64 wn] 26)) := by go_grown
  have D0 := Lib.hid (C0.out.below dw).drew
  have D1 := Lib.hid (C1.out.below dw).drew
  have D2 : Hid (Blk (w2.alloc (.cells #[.slice A ds.length cv, .int .i64 wn] 26)).drew w2.heap.size 26 #[.slice A ds.length cv, .int .i64 wn]) := (Blk.new _ _ _).drew
  have DO := Lib.hid (own_below HO.out dw).drew
  have DS := Lib.hid ((HS2.out.below dw).below (below_drew' _))
  clear dw
  have n1 : ¬ w2.heap.size = W.heap.size := by omega
  have n2 : ¬ w2.heap.size = W.heap.size + 1 := by omega
  have n3 : ¬ W.heap.size = w2.heap.size := by omega
  have n4 : ¬ W.heap.size + 1 = w2.heap.size := by omega
  go_wp2_with fail
  have q0 := D2.out.cell 0 rfl
  have q1 := D2.out.cell 1 rfl
  go_region_held3 (fun w' => w'.cell? ⟨w2.heap.size, 0, none⟩ = some (.slice A ds.length cv) ∧ w'.cell? ⟨w2.heap.size, 1, none⟩ = some (.int .i64 wn)) (first | (with_reducible exact ⟨q0, q1⟩) | ((try dsimp only); refine ⟨?_, ?_⟩ <;> (first | (simp [go_sem, *]; done))))
    (first
      | (go_at_call 34; refine (l21DrawState_any W _ _ vb bs _ DS.out (by omega) _ ds wn w1.heap.size DO.out (by omega)).mono ?_; rintro e w3 ⟨m, rd, rfl, hs, hg3⟩; have E0 := Lib.hid (D0.out.grown hg3 (by first | (simp; done) | (simp; omega))); have E1 := Lib.hid (D1.out.grown hg3 (by first | (simp; done) | (simp; omega))); have E2 := D2.out.grown hg3 (by first | (simp; done) | (simp; omega)); have p0 := E0.out.cell 0 rfl; have p1 := E0.out.cell 1 rfl; have p2 := E1.out.cell 0 rfl; have p3 := E1.out.cell 1 rfl; have f0 := E0.out.frozen 0; have f1 := E0.out.frozen 1; have f2 := E1.out.frozen 0; have f3 := E1.out.frozen 1; have zp := E0.out.lt; have zq := E1.out.lt; have q0 := E2.cell 0 rfl; have q1 := E2.cell 1 rfl; have HS3 := Lib.hid hs; have HG3 := Lib.hid hg3; clear hs hg3 E2))
  all_goals
    have OO := DO.out.kept HG3.out (by
      cases hv : (Value.slice A ds.length cv).ownBlock with
      | none => exact Or.inl rfl
      | some j => exact Or.inr fun e => by have := (DO.out.lt j hv).1; cases e; omega)
    have HOO := Lib.hid OO
    have HBB := Lib.hid HS3.out.old
    clear OO
    go_wp2
    try simp only [Exit.inBlock, Exit.then]
    refine bodyPost_ret (v := .tuple #[.agg #[.slice A ds.length cv, .int .i64 wn], .agg #[.int .i64 m, .int .i64 rd]]) ?_ rfl ?_
    · simp [results, Try.results16, go_sem, p0, p1, p2, p3]
    · refine HP.out _ _ ⟨_, ds, _, _, _, rfl, ?_, HL.out, ?_⟩
      · exact own_mono (own_setCell (own_setCell (own_setCell (own_setCell HOO.out (by simp; omega) _) (by simp; omega) _) (by simp; omega) _) (by simp; omega) _) (by omega)
      · exact (((HBB.out.setCell (by simp) _).setCell (by simp) _).setCell (by simp) _).setCell (by simp) _
end Go.Proofs.Ytdlegcjcmhpbcaa
