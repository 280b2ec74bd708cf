/- Racks: what DrawSnailHour draws: some rack and a minute. -/
import Derived.Test.YtdlegcjcmhpbcaaDrT
namespace Go.Proofs.Ytdlegcjcmhpbcaa
open Go.RowKit
attribute [local go_sem ↓] Go.wp_at_zero Go.wp_at_succ

/-- What a draw of rack and minute leaves. -/
def SnailPost (W : World) (e : Ending) (w' : World) : Prop := ∃ (v : Value) (ds : List Int) (wn m : Int), e = .returned (.tuple #[.agg #[v, .int .i64 wn], .int .i64 m]) ∧ w'.ownsRow W.heap.size 2 1 v ds.length (I64 ds) ∧ ds.length ≤ 12 ∧ Below W.heap.size W w'

set_option maxHeartbeats 2000000 in
theorem DrawSnailHour_any (vb : Value) (bs : List Int) (W : World) (hv : SlB W vb bs) :
    Calls Try.prog 9 #[vb] W (SnailPost W) := by
  have HP : Hid (∀ e w', (∃ (v : Value) (ds : List Int) (wn m : Int), e = .returned (.tuple #[.agg #[v, .int .i64 wn], .int .i64 m]) ∧ w'.ownsRow W.heap.size 2 1 v ds.length (I64 ds) ∧ ds.length ≤ 12 ∧ Below W.heap.size W w') → SnailPost W e w') := fun e w' h => h
  have HV := Lib.hid (fun w (hb : Below W.heap.size W w) => l21Both_any vb bs w (hv.below hb))
  clear hv
  go_enter Try.func9, Try.ntmps9
  have HK := Lib.hid (Blk.new W 26 #[.slice none 0 0, .int .i64 0])
  go_wp2_with fail
  refine (HV.out _ (by go_grown)).mono ?_
  rintro e w1 ⟨v, ds, wn, m, rd, rfl, ho, hl, hb⟩
  have B0 := HK.out.below hb
  obtain ⟨A, cv, rfl⟩ := own_form ho
  have p0 := B0.cell 0 rfl
  have p1 := B0.cell 1 rfl
  have f0 := B0.frozen 0
  have f1 := B0.frozen 1
  have z0 := B0.lt
  have HB : Hid (Below W.heap.size W w1) := Below.trans (by go_grown) (hb.mono (by simp))
  have HO := Lib.hid ho
  have HL := Lib.hid hl
  clear hb ho hl HK HV B0
  go_wp2_with fail
  go_region
  all_goals
    go_wp2
    try simp only [Exit.inBlock, Exit.then]
    refine bodyPost_ret (v := .tuple #[.agg #[.slice A ds.length cv, .int .i64 wn], .int .i64 m]) ?_ rfl ?_
    · have z2 : W.heap.size < w1.heap.size + 1 := by omega
      simp [results, Try.results9, go_sem, p0, p1, z0, z2]
    · refine HP.out _ _ ⟨_, ds, _, _, rfl, ?_, HL.out, ?_⟩
      · have O2 := own_setCell (own_setCell (a := ⟨W.heap.size, 0, none⟩) HO.out (by simp) (.slice A ds.length cv)) (a := ⟨W.heap.size, 1, none⟩) (by simp) (.int .i64 wn)
        exact own_mono (own_below O2 (by go_grown)) (by simp)
      · have B2 := (HB.out.setCell (show W.heap.size ≤ (⟨W.heap.size, 0, none⟩ : Addr).block from Nat.le_refl _) (.slice A ds.length cv)).setCell (show W.heap.size ≤ (⟨W.heap.size, 1, none⟩ : Addr).block from Nat.le_refl _) (.int .i64 wn)
        exact grown_again B2 (by go_grown)
end Go.Proofs.Ytdlegcjcmhpbcaa
