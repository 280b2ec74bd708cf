/- Racks: NextStrike, in the program and in the reference. -/
import Derived.Test.YtipakagmbppagaaRkN
import Derived.Test.YtipakagmbppagaaBx
namespace Go.Proofs.Ytipakagmbppagaa
open Go.RowKit
attribute [local go_sem ↓] Go.wp_at_zero Go.wp_at_succ

theorem tickIt_any (v : Value) (ds : List Int) (wn m rd : Int) (k : Nat) (w : World) (hv : Sl w v ds) (hr : RkOk ds wn) :
    Calls Try.prog 73 #[.agg #[v, .int .i64 wn], .agg #[.int .i64 (itM m k), .int .i64 (itR ds wn m rd k)]] w fun e w' => e = .returned (.tuple #[.agg #[.int .i64 (itM m (k + 1)), .int .i64 (itR ds wn m rd (k + 1))], .int .i64 (itB ds wn m rd k)]) ∧ Below w.heap.size w w' := by
  have h := tick_any v ds wn (itM m k) (itR ds wn m rd k) w hv hr (itM_in m k).1 (itM_in m k).2
  rw [itM_succ] at h
  exact h
theorem l21TickIt_any (v : Value) (ds : List Int) (wn m rd : Int) (k : Nat) (w : World) (hv : Sl w v ds) (hr : RkOk ds wn) :
    Calls Try.prog 76 #[.agg #[v, .int .i64 wn], .agg #[.int .i64 (itM m k), .int .i64 (itR ds wn m rd k)]] w fun e w' => e = .returned (.tuple #[.agg #[.int .i64 (itM m (k + 1)), .int .i64 (itR ds wn m rd (k + 1))], .int .i64 (itB ds wn m rd k)]) ∧ Below w.heap.size w w' := by
  have h := l21Tick_any v ds wn (itM m k) (itR ds wn m rd k) w hv hr (itM_in m k).1 (itM_in m k).2
  rw [itM_succ] at h
  exact h

set_option maxHeartbeats 4000000 in
theorem NextStrike_i (v : Value) (ds : List Int) (wn m rd : Int) (w : World) (hv : Sl w v ds) (hs : stB ds wn m rd = true) (K : Nat) (hK : K < 120) (hp : 0 < itB ds wn m rd K) (hn : ∀ j, j < K → ¬ 0 < itB ds wn m rd j) :
    Calls Try.prog 45 #[.agg #[v, .int .i64 wn], .agg #[.int .i64 m, .int .i64 rd]] w fun e w' => e = .returned (.tuple #[.int .i64 (K + 1), .int .i64 (itB ds wn m rd K), .int .i64 0]) ∧ Below w.heap.size w w' := by
  have H1 := Lib.hid (fun w' (hb : Below w.heap.size w w') => ValidRackState_i v ds wn m rd w' (hv.below hb))
  obtain ⟨hr, hst⟩ := stB_iff.1 hs
  have H2 := Lib.hid (fun k w' (hb : Below w.heap.size w w') => tickIt_any v ds wn m rd k w' (hv.below hb) hr)
  have HB := Lib.hid hs
  have HN := Lib.hid hn
  have HM := Lib.hid (itM_zero hst.1)
  clear hv hs hr hst hn
  go_enter Try.func45, Try.ntmps45
  obtain ⟨k0, k1⟩ := bx2 w 27 34 #[v, .int .i64 wn] #[.int .i64 m, .int .i64 rd]
  have HK0 := Lib.hid k0
  have HK1 := Lib.hid k1
  clear k0 k1
  go_wp2_with fail
  refine (H1.out _ (by go_grown)).mono ?_
  rintro e w1 ⟨rfl, hb1⟩
  rw [HB.out]
  have J0 := Lib.hid (HK0.out.below hb1)
  have J1 := Lib.hid (HK1.out.below hb1)
  have B1 : Below w.heap.size w w1 := Below.trans (by go_grown) (hb1.mono (by simp; omega))
  clear hb1 HK0 HK1
  go_wp2
  go_loopw [7] (fun n wr => ∃ k : Nat, k ≤ K ∧ n = .int .i64 (k + 1) ∧ Blk wr w.heap.size 27 #[v, .int .i64 wn] ∧ Blk wr (w.heap.size + 1) 34 #[.int .i64 (itM m k), .int .i64 (itR ds wn m rd k)] ∧ Below w.heap.size w wr) (fun n _ => K + 1 - (intOf n).toNat)
  case atStart => exact ⟨0, by omega, by go_num, J0.out, by rw [HM.out]; exact J1.out, B1⟩
  case round =>
    obtain ⟨k, hk, rfl, b0, b1, hB⟩ := hrel
    have q0 := b0.cell 0 rfl
    have q1 := b0.cell 1 rfl
    have q2 := b1.cell 0 rfl
    have q3 := b1.cell 1 rfl
    have P0 := Lib.hid b0
    have P1 := Lib.hid b1
    clear b0 b1
    go_wp2_with fail
    refine (H2.out k _ hB).mono ?_
    rintro e w2 ⟨rfl, hb2⟩
    have b0 := P0.out.below hb2
    have b1 := P1.out.below hb2
    have B2 := hB.trans (hb2.mono hB.size)
    have q2 := b1.cell 0 rfl
    have q3 := b1.cell 1 rfl
    have f2 := b1.frozen 0
    have f3 := b1.frozen 1
    have z1 := b1.lt
    have P0 := Lib.hid b0
    have P1 := Lib.hid b1
    clear b0 b1 hb2 hB
    by_cases he : k = K
    · subst he
      go_wp2
      go_ret3
      exact ⟨rfl, by go_grown⟩
    · have hno := HN.out k (by omega)
      go_wp2
      go_roundw
      case rel =>
        refine ⟨k + 1, by omega, by go_num, ?_, ?_, ?_⟩
        · refine Blk.alloc (Blk.far (Blk.far P0.out ?_ _) ?_ _) _ <;> simp
        · exact Blk.alloc (Blk.put2 P1.out _ _) _
        · go_grown
      case measure => simp [intOf]; omega
end Go.Proofs.Ytipakagmbppagaa
