/- Racks: what the draws of the laws draw: some rack and state. -/
import Derived.Test.YtdlegcjcmhpbcaaDrT
namespace Go.Proofs.Ytdlegcjcmhpbcaa
open Go.RowKit
attribute [local go_sem ↓] Go.wp_at_zero Go.wp_at_succ

set_option maxHeartbeats 2000000 in
theorem DrawRackStates_any (vb : Value) (bs : List Int) (W : World) (hv : SlB W vb bs) :
    Calls Try.prog 6 #[vb] W (BothPost W) := by
  have HP : Hid (∀ e w', (∃ (v : Value) (ds : List Int) (wn m rd : Int), e = .returned (.tuple #[.agg #[v, .int .i64 wn], .agg #[.int .i64 m, .int .i64 rd]]) ∧ w'.ownsRow W.heap.size 2 1 v ds.length (I64 ds) ∧ ds.length ≤ 12 ∧ Below W.heap.size W w') → BothPost W e w') := fun e w' h => h
  have HV := Lib.hid (fun w (hb : Below W.heap.size W w) => l21Both_any vb bs w (hv.below hb))
  clear hv
  go_enter Try.func6, Try.ntmps6
  have HK := Lib.hid (bx2 W 26 28 #[.slice none 0 0, .int .i64 0] #[.int .i64 0, .int .i64 0])
  go_wp2_with fail
  refine (HV.out _ (by go_grown)).mono ?_
  rintro e w1 ⟨v, ds, wn, m, rd, rfl, ho, hl, hb⟩
  have B0 := HK.out.1.below hb
  have B1 := HK.out.2.below hb
  obtain ⟨A, cv, rfl⟩ := own_form ho
  have p0 := B0.cell 0 rfl
  have p1 := B0.cell 1 rfl
  have p2 := B1.cell 0 rfl
  have p3 := B1.cell 1 rfl
  have f0 := B0.frozen 0
  have f1 := B0.frozen 1
  have f2 := B1.frozen 0
  have f3 := B1.frozen 1
  have z0 := B0.lt
  have z1 := B1.lt
  have HB : Hid (Below W.heap.size W w1) := Below.trans (by go_grown) (hb.mono (by simp; omega))
  have HO := Lib.hid ho
  have HL := Lib.hid hl
  clear hb ho hl HK HV B0 B1
  go_wp2
  try simp only [Exit.inBlock, Exit.then]
  refine bodyPost_ret (v := .tuple #[.agg #[.slice A ds.length cv, .int .i64 wn], .agg #[.int .i64 m, .int .i64 rd]]) ?_ rfl ?_
  · simp [results, Try.results6, go_sem, p0, p1, p2, p3]
  · refine HP.out _ _ ⟨_, ds, _, _, _, rfl, ?_, HL.out, ?_⟩
    · exact own_mono (own_setCell (own_setCell (own_setCell (own_setCell HO.out (by first | (simp; done) | (simp; omega)) _) (by first | (simp; done) | (simp; omega)) _) (by first | (simp; done) | (simp; omega)) _) (by first | (simp; done) | (simp; omega)) _) (by first | (simp; done) | (simp; omega))
    · exact (((HB.out.setCell (by simp) _).setCell (by simp) _).setCell (by simp) _).setCell (by simp) _
end Go.Proofs.Ytdlegcjcmhpbcaa
