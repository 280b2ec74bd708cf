/- Racks in plain numbers: what is struck in whole hours from twelve o'clock; the program's StrikeMany for a valid wheel. -/
import Derived.Test.YtipakagmbppagaaRkR
import Derived.Test.YtipakagmbppagaaRkX
import Derived.Test.YtipakagmbppagaaRkY
import Derived.Test.YtipakagmbppagaaWhV
namespace Go.Proofs.Ytipakagmbppagaa
open Go.RowKit
attribute [local go_sem ↓] Go.wp_at_zero Go.wp_at_succ

theorem itL_none' {ds : List Int} {wn m rd : Int} {K : Nat} (h : ∀ j, j < K → itB ds wn m rd j = 0) : itL ds wn m rd K = [] := by
  induction K with
  | zero => rfl
  | succ K ih => rw [itL_non (by rw [h K (by omega)]; decide)]; exact ih fun j hj => h j (by omega)
/-- Until the next full hour: nothing is struck, or the number of this hour. -/
theorem hour_run {ds : List Int} {wn m rd : Int} (hr : RkOk ds wn) (h : StOk ds wn m rd) {K : Nat} (hK : (K : Int) = 60 - m % 60) :
    itL ds wn m rd K = [] ∨ itL ds wn m rd K = [ix ds (itM m K / 60).toNat] := by
  obtain ⟨J, rfl⟩ : ∃ J, K = J + 1 := ⟨K - 1, by omega⟩
  have h0 : itL ds wn m rd J = [] := itL_none' fun j hj => by
    rw [itB, tkB, if_neg]
    have := h.1
    unfold tkM itM; omega
  by_cases hp : 0 < itB ds wn m rd J
  · right
    rw [itL_pos hp, h0]
    have e1 : itB ds wn m rd J = itR ds wn m rd J := by
      rw [itB, tkB, if_pos]
      have := h.1
      unfold tkM itM; omega
    rw [e1] at hp ⊢
    have hst := stOk_it hr h J
    have g := hr.2.2
    have g1 := h.1
    rcases hst.2 with h2 | ⟨h2, h3⟩
    · omega
    · rw [h3, depthM]
      have : snail wn (itM m J) = itM m (J + 1) / 60 := by
        unfold snail itM; omega
      rw [this]; rfl
  · left; rw [itL_non hp, h0]
/-- A whole hour from a full hour. -/
theorem hour_full {ds : List Int} {wn m : Int} (hr : RkOk ds wn) (hm : 0 ≤ m ∧ m ≤ 719) (h60 : m % 60 = 0) : itL ds wn m 0 60 = [ix ds (itM m 60 / 60).toNat] ∧ itR ds wn m 0 60 = 0 := by
  constructor
  · rcases hour_run hr (stOk_zero (ds := ds) (wn := wn) (rd := 0) hm rfl) (K := 60) (by omega) with h | h
    · have := itL_pos (hour_strikes (rd := 0) hr h60)
      rw [h] at this
      have e := congrArg List.length this
      simp at e
    · exact h
  · have : itR ds wn m 0 60 = tkR ds wn (itM m 59) (itR ds wn m 0 59) := rfl
    rw [this, tkR, if_pos (by unfold tkM itM; omega)]
theorem hours_run {ds : List Int} {wn : Int} (hr : RkOk ds wn) (H : Nat) : itL ds wn 0 0 (60 * H) = rwM ds H ∧ itR ds wn 0 0 (60 * H) = 0 := by
  induction H with
  | zero => exact ⟨rfl, rfl⟩
  | succ H ih =>
    obtain ⟨h1, h2⟩ := hour_full (m := itM 0 (60 * H)) hr (itM_in _ _) (by unfold itM; omega)
    have e : 60 * (H + 1) = 60 * H + 60 := by omega
    rw [e, itL_add, ← itR_add ds wn 0 0 (60 * H) 60, ih.1, ih.2, h1, h2, itM_add]
    refine ⟨?_, rfl⟩
    have e2 : (itM 0 (60 * H + 60) / 60).toNat = (H + 1) % 12 := by unfold itM; omega
    rw [e2, rwM, rwM, List.range_succ, List.map_append]; rfl
theorem rwM_many {ds : List Int} : manyM (rwM ds 12) 0 12 = rwM ds 12 := by
  have e : (rwM ds 12).length = 12 := rwM_length ds 12
  refine ext_ix (by rw [manyM_length, e]) fun j hj => ?_
  rw [manyM_length] at hj
  rw [ix_manyM hj, gapM, e]
  have : ((0 + (j : Int)) % ((12 : Nat) : Int)).toNat = j := by omega
  rw [this]
/-- What a rack made from a wheel strikes is what the wheel strikes. -/
theorem copy_many {gs : List Int} {q : Int} (hd : (12 : Int) % (gs.length : Int) = 0) (n : Nat) : rwM (cwM gs q 12) n = manyM gs q n := by
  refine ext_ix (by rw [manyM_length, rwM_length]) fun j hj => ?_
  rw [rwM_length] at hj
  rw [ix_manyM hj, ix_rwM hj, ix_cwM (show (j + 1) % 12 < 12 by omega), gapM, gapM]
  congr 2
  have e1 : ((((j + 1) % 12 + 11) % 12 : Nat) : Int) = (j : Int) % 12 := by omega
  rw [e1]
  obtain ⟨c, hc⟩ : ∃ c : Int, 12 = (gs.length : Int) * c := Int.dvd_of_emod_eq_zero hd
  have e2 : (j : Int) = (j : Int) % 12 + (gs.length : Int) * (c * ((j : Int) / 12)) := by
    have := Int.emod_add_mul_ediv (j : Int) 12
    rw [← Int.mul_assoc, ← hc]; omega
  conv => rhs; rw [e2]
  rw [← Int.add_assoc, Int.add_mul_emod_self_left]
theorem cwM_ok {gs : List Int} {q wn : Int} (h : whB gs = true) (hw : 1 ≤ wn ∧ wn ≤ 30) : RkOk (cwM gs q 12) wn := by
  refine ⟨cwM_length gs q 12, fun d hd => ?_, hw⟩
  obtain ⟨k, hk, rfl⟩ := mem_ix hd
  rw [cwM_length] at hk
  rw [ix_cwM hk]
  exact gapM_in h _

set_option maxRecDepth 100000 in
set_option maxHeartbeats 4000000 in
/-- StrikeMany of a valid wheel from a notch of it. -/
theorem StrikeMany_i0 (v : Value) (gs : List Int) (q : Int) (N : Nat) (w : World) (hv : Sl w v gs) (hs : whB gs = true) (hq0 : 0 ≤ q) (hq1 : q < (gs.length : Int)) (hN : N ≤ 500) :
    Calls Try.prog 65 #[.agg #[v], .int .i64 q, .int .i64 N] w fun e w' => ∃ (v' : Value) (z : Int), e = .returned (.tuple #[v', .int .i64 z, .int .i64 0]) ∧ w'.ownsRow w.heap.size 2 1 v' (manyM gs q N).length (I64 (manyM gs q N)) ∧ Below w.heap.size w w' := by
  have hl := (whB_iff.1 hs).2
  have hn : inB q 0 ((gs.length : Int) - 1) = true := inB_t hq0 (by omega)
  have hN2 : inB (N : Int) 0 500 = true := inB_t (by omega) (by omega)
  obtain ⟨A, c, rfl, hac, hac', _⟩ := hv.open_
  have H1 := Lib.hid (fun w' (hb : Below w.heap.size w w') => ValidCountWheel_i _ gs w' (hv.below hb))
  have H2 := Lib.hid (fun w' (hb : Below w.heap.size w w') => isNotch_any _ gs q w' (hv.below hb))
  have H3 := Lib.hid (fun (k : Nat) w' (hb : Below w.heap.size w w') => gapAt_any _ gs (q + (k : Int)) w' (hv.below hb) hl.1 (by omega))
  have H0 := Lib.hid hs
  have HN := Lib.hid hn
  have HN2 := Lib.hid hN2
  obtain ⟨l1, l2⟩ := hl
  clear hv hs hn hN2
  go_enter Try.func65, Try.ntmps65
  have HK0 := Lib.hid (bx1 w 62 #[.slice A gs.length c])
  go_wp2_with fail
  refine (H1.out _ (by go_grown)).mono ?_
  rintro e w1 ⟨rfl, hb1⟩
  rw [H0.out]
  have J0 := Lib.hid (HK0.out.below hb1)
  have q0 := J0.out.cell 0 rfl
  have z0 := J0.out.lt
  have B1 : Below w.heap.size w w1 := Below.trans (by go_grown) (hb1.mono (by first | (simp; done) | (simp; omega)))
  clear hb1 HK0
  go_wp2_with fail
  refine (H2.out _ B1).mono ?_
  rintro e w2 ⟨rfl, hb2⟩
  rw [HN.out]
  have J2 := Lib.hid (J0.out.below hb2)
  have B2 := Lib.hid (grown_again B1 hb2)
  clear hb2 q0 z0 B1 J0
  go_wp2_with (go_at_call 71; refine (within_any _ _ _ _).mono ?_; rintro e w' ⟨rfl, rfl⟩; rw [HN2.out])
  have hi : q + (N : Int) ≤ 9223372036854775807 := by omega
  go_loopw [9, 10] (fun b x wr => ∃ j : Nat, j ≤ N ∧ x = .int .i64 (q + (j : Int)) ∧ wr.ownsRow (w.heap.size + 1) 2 1 b (manyM gs q j).length (I64 (manyM gs q j)) ∧ Blk wr w.heap.size 62 #[.slice A gs.length c] ∧ Below w.heap.size w wr) (fun _ x _ => (q + (N : Int) - intOf x).toNat)
  case atStart => exact ⟨0, Nat.zero_le _, by go_num, World.ownsRow_nil _ _ _ _, J2.out, B2.out⟩
  case round =>
    obtain ⟨j, hj, rfl, hown, hblk, hB⟩ := hrel
    by_cases hlt : j < N
    · have i1 : q + (j : Int) < q + (N : Int) := by omega
      have e1 : IntKind.i64.wrap (q + (N : Int)) = q + (N : Int) := IntWalk.i64_in _ (by omega)
      have e2 : IntKind.i64.wrap (q + (j : Int) + 1) = q + (j : Int) + 1 := IntWalk.i64_in _ (by omega)
      have q0 := hblk.cell 0 rfl
      have z0 := hblk.lt
      have HK := Lib.hid hblk
      have HO := Lib.hid hown
      have hL : (manyM gs q j).length ≤ 134217728 := by rw [manyM_length]; omega
      clear hblk hown
      go_wp2_with fail
      refine (H3.out j _ hB).mono ?_
      rintro e w3 ⟨rfl, hb3⟩
      have HO3 := Lib.hid (own_below HO.out hb3)
      have HK3 := Lib.hid (HK.out.below hb3)
      have B3 := grown_again hB hb3
      have z3 := HK3.out.lt
      have hM : manyM gs q (j + 1) = manyM gs q j ++ [gapM gs (q + (j : Int))] := manyM_succ gs q j
      have HM := Lib.hid hM
      clear hb3 q0 hM
      go_wp2_with (at_builtin; refine wpList_app1g rfl _ _ rfl (w.heap.size + 1) _ (manyM gs q j) rfl HO3.out _ w3.heap.size rfl rfl hL (by omega) ?_; intro v' w4 hown' hb' hg'; rw [← HM.out] at hown'; have HO4 := Lib.hid hown'; have HB4 := Lib.hid hb'; have HG4 := Lib.hid hg'; clear hown' hb' hg')
      have HK4 := Lib.hid (HK3.out.belowB HB4.out (by omega))
      go_roundw
      case rel => exact ⟨j + 1, by omega, by go_num, HO4.out, HK4.out, B3.trans (HB4.out.mono (by omega))⟩
      case measure => simp [intOf]; omega
    · obtain rfl : j = N := by omega
      have q0 := hblk.cell 0 rfl
      have z0 := hblk.lt
      have HO := Lib.hid hown
      clear hblk hown
      go_wp2
      go_quiet (fail)
      go_wp2
      go_ret3
      exact ⟨_, _, rfl, own_drewN (own_mono HO.out (by omega)) _, below_drewN hB _⟩
end Go.Proofs.Ytipakagmbppagaa
