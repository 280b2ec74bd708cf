/- Hands: ReachableHands in the program and in the reference. -/
import Derived.Test.YtfddibdncniekaaDoorHsO
import Derived.Test.YtfddibdncniekaaDoorHnO
namespace Go.Proofs.YtfddibdncniekaaDoor
open Go.RowKit
attribute [local go_sem ↓] Go.wp_at_zero Go.wp_at_succ

/-- The states that can be reached, in order. -/
def rcL (gs : List Int) (h q : Int) (s : ByteArray) : List (Int × Int) := srtP (stW (waysOf gs h q s)) (waysOf gs h q s).length
theorem rcL_length (gs : List Int) (h q : Int) (s : ByteArray) : (rcL gs h q s).length = (waysOf gs h q s).length := srtP_length _ _
theorem take_pw {L : List Way} {i : Nat} (h : i < L.length) : L.take (i + 1) = L.take i ++ [pw L i] := by rw [List.take_succ_eq_append_getElem h, pw_eq h]

set_option maxRecDepth 100000 in
set_option maxHeartbeats 8000000 in
theorem ReachableHands_i0 (v : Value) (gs : List Int) (h q : Int) (s : ByteArray) (w : World) (hv : Sl w v gs) (hsz : s.size ≤ 9223372036854775807) (hs : hnB gs h q = true) (hk : knB s = true) :
    Calls Tryd.prog 46 #[.agg #[v], .agg #[.int .i64 h, .int .i64 q], .string s] w fun e w' => ∃ v', e = .returned (.tuple #[v', .int .i64 0]) ∧ w'.ownsRow w.heap.size 28 2 v' (rcL gs h q s).length (P64 (rcL gs h q s)) ∧ Below w.heap.size w w' := by
  have H1 := Lib.hid (fun w' (hb : Below w.heap.size w w') => ValidHands_i v gs h q w' (hv.below hb))
  have H2 := Lib.hid (fun w' => areActions_any s w' hsz)
  obtain ⟨hw, hx⟩ := hnB_iff.1 hs
  obtain ⟨-, h1, h24⟩ := whB_iff.1 hw
  have HW := Lib.hid (fun w' (hb : Below w.heap.size w w') => waysFrom_any v gs h q s w' (hv.below hb) hw hx)
  have HT := Lib.hid (waysOf_ok s h1 hx).1
  have HB := Lib.hid hs
  have HK := Lib.hid hk
  have HR := Lib.hid (show rcL gs h q s = srtP (stW (waysOf gs h q s)) (waysOf gs h q s).length from rfl)
  clear hv hw hx hs hk
  go_enter Tryd.func46, Tryd.ntmps46
  obtain ⟨k0, k1⟩ := bx2 w 31 28 #[v] #[.int .i64 h, .int .i64 q]
  have HK0 := Lib.hid k0
  have HK1 := Lib.hid k1
  clear k0 k1
  go_wp2_with fail
  refine (H1.out _ (by go_grown)).mono ?_
  rintro e w0 ⟨rfl, hb0⟩
  rw [HB.out]
  have HI0 := Lib.hid (HK0.out.below hb0)
  have HI1 := Lib.hid (HK1.out.below hb0)
  have HB0 := Lib.hid (show Below w.heap.size w w0 from Below.trans (by go_grown) (hb0.mono (by simp; omega)))
  clear hb0 HK0 HK1
  go_wp2_with fail
  refine (H2.out _).mono ?_
  rintro e w1 ⟨rfl, hb1⟩
  rw [HK.out]
  have J0 := HI0.out.below hb1
  have J1 := HI1.out.below hb1
  have q0 := J0.cell 0 rfl
  have q1 := J1.cell 0 rfl
  have q2 := J1.cell 1 rfl
  have HB1 := Lib.hid (HB0.out.trans (hb1.mono HB0.out.size))
  obtain ⟨L, hL⟩ : ∃ L, L = waysOf gs h q s := ⟨_, rfl⟩
  rw [← hL] at HT HW HR
  clear hb1 HI0 HI1 J0 J1 hL
  go_wp2_with fail
  refine (HW.out _ HB1.out).mono ?_
  rintro e w2 ⟨vw, rfl, how, hb2⟩
  have HB2 := Lib.hid (HB1.out.trans (hb2.mono HB1.out.size))
  have hcnt := HT.out.count
  obtain ⟨bw, cw, rfl, hbw1, hbw2, hcw, hcx, hcells⟩ := own_way how HT.out.pos
  have hcz : (L.length : Int) ≤ (cw : Int) := by omega
  simp only [maxLen] at hcx
  clear how hb2 q0 q1 q2
  go_wp2_with fail
  go_loopw [8, 23] (fun x8 a wr => ∃ i : Nat, i ≤ L.length ∧ a = .int .i64 (i : Int) ∧ wr.ownsRow w2.heap.size 28 2 x8 (L.take i).length (P64 (stW (L.take i))) ∧ Hid (Below w2.heap.size w2 wr)) (fun _ a _ => L.length - (intOf a).toNat)
  case atStart => exact ⟨0, by omega, by go_num, World.ownsRow_nil _ _ _ _, Lib.hid (Below.refl _ _)⟩
  case round =>
    obtain ⟨i, hi, rfl, hown, hB⟩ := hrel
    obtain ⟨wi, rfl⟩ : ∃ y : World, y = wr := ⟨_, rfl⟩
    by_cases hlt : i < L.length
    · have i1 : (i : Int) < (L.length : Int) := by omega
      obtain ⟨c0, c1, c2⟩ := hcells.out i hlt
      obtain ⟨x, hxe⟩ : ∃ x, x = pw L i := ⟨_, rfl⟩
      rw [← hxe] at c0 c1 c2
      have q0 := (hB.out.cell (p := ⟨bw, i * 3, none⟩) hbw2).trans c0
      have q1 := (hB.out.cell (p := ⟨bw, i * 3 + 1, none⟩) hbw2).trans c1
      have q2 := (hB.out.cell (p := ⟨bw, i * 3 + 2, none⟩) hbw2).trans c2
      have HO := Lib.hid hown
      have HE := Lib.hid (show L.take (i + 1) = L.take i ++ [x] by rw [take_pw hlt, hxe])
      have hll : (L.take i).length ≤ 134217728 := by rw [List.length_take]; omega
      have z2 := hB.out.size
      clear c0 c1 c2 hxe hown
      go_wp2_with (at_builtin; refine wpList_appS rfl _ _ rfl w2.heap.size u8 (L.take i) rfl (HO.out.alloc _) x (wi.heap.size + 1) rfl (by simp) hll (by simp; omega) ?_; intro v6 w6 ho6 hb6 hg6 hk6; have HO6 := Lib.hid ho6; have HB6 := Lib.hid hb6; clear ho6 hb6 hg6 hk6)
      go_roundw
      case rel => exact ⟨i + 1, by omega, by go_num, by rw [HE.out]; exact HO6.out, Lib.hid (hB.out.trans (Below.trans (by go_grown) HB6.out))⟩
      case measure => simp [intOf]; omega
    · obtain rfl : i = L.length := by omega
      have hown2 : wi.ownsRow w2.heap.size 28 2 u8 L.length (P64 (stW L)) := by rwa [List.take_length] at hown
      have hsl : (stW L).length = L.length := stW_length L
      obtain ⟨A8, c8, rfl⟩ := own_form hown2
      have HS := Lib.hid (SortHands_any (.slice A8 L.length c8) (stW L) w2.heap.size wi (by rw [hsl]; exact hown2) (by omega) (fun x hx => by
        obtain ⟨y, hy, rfl⟩ := List.mem_map.1 hx
        obtain ⟨⟨a, b⟩, c, d⟩ := hsB_iff.1 (HT.out.valid y hy)
        exact ⟨⟨a, by omega⟩, c, by omega⟩))
      have hsl2 := Lib.hid hsl
      clear hown hown2 hsl
      go_wp2_with fail
      refine HS.out.mono ?_
      rintro e w3 ⟨rfl, ho3, hb3⟩
      have HB3 := Lib.hid (HB2.out.trans ((hB.out.trans hb3).mono HB2.out.size))
      have HO3 := Lib.hid ho3
      clear hb3 ho3
      go_wp2_with fail
      go_ret2
      refine ⟨_, rfl, ?_, HB3.out⟩
      have := HO3.out
      rw [hsl2.out] at this
      rw [HR.out, srtP_length]
      exact own_mono this HB2.out.size
set_option maxHeartbeats 4000000 in
theorem ReachableHands_i1 (v : Value) (gs : List Int) (h q : Int) (s : ByteArray) (w : World) (hv : Sl w v gs) (hs : hnB gs h q = false) :
    Calls Tryd.prog 46 #[.agg #[v], .agg #[.int .i64 h, .int .i64 q], .string s] w fun e w' => ∃ v', e = .returned (.tuple #[v', .int .i64 1]) ∧ w'.ownsRow w.heap.size 28 2 v' ([] : List (Int × Int)).length (P64 ([] : List (Int × Int))) ∧ Below w.heap.size w w' := by
  have H1 := Lib.hid (fun w' (hb : Below w.heap.size w w') => ValidHands_i v gs h q w' (hv.below hb))
  have HB := Lib.hid hs
  clear hv hs
  go_enter Tryd.func46, Tryd.ntmps46
  go_wp2_with fail
  refine (H1.out _ (by go_grown)).mono ?_
  rintro e w0 ⟨rfl, hb0⟩
  rw [HB.out]
  have HB0 := Lib.hid (show Below w.heap.size w w0 from Below.trans (by go_grown) (hb0.mono (by simp; omega)))
  clear hb0
  go_wp2_with fail
  go_ret2
  exact ⟨_, rfl, World.ownsRow_nil _ _ _ _, HB0.out⟩
set_option maxHeartbeats 4000000 in
theorem ReachableHands_i7 (v : Value) (gs : List Int) (h q : Int) (s : ByteArray) (w : World) (hv : Sl w v gs) (hsz : s.size ≤ 9223372036854775807) (hs : hnB gs h q = true) (hk : knB s = false) :
    Calls Tryd.prog 46 #[.agg #[v], .agg #[.int .i64 h, .int .i64 q], .string s] w fun e w' => ∃ v', e = .returned (.tuple #[v', .int .i64 7]) ∧ w'.ownsRow w.heap.size 28 2 v' ([] : List (Int × Int)).length (P64 ([] : List (Int × Int))) ∧ Below w.heap.size w w' := by
  have H1 := Lib.hid (fun w' (hb : Below w.heap.size w w') => ValidHands_i v gs h q w' (hv.below hb))
  have H2 := Lib.hid (fun w' => areActions_any s w' hsz)
  have HB := Lib.hid hs
  have HK := Lib.hid hk
  clear hv hs hk
  go_enter Tryd.func46, Tryd.ntmps46
  go_wp2_with fail
  refine (H1.out _ (by go_grown)).mono ?_
  rintro e w0 ⟨rfl, hb0⟩
  rw [HB.out]
  have HB0 := Lib.hid (show Below w.heap.size w w0 from Below.trans (by go_grown) (hb0.mono (by simp; omega)))
  clear hb0
  go_wp2_with fail
  refine (H2.out _).mono ?_
  rintro e w1 ⟨rfl, hb1⟩
  rw [HK.out]
  have HB1 := Lib.hid (HB0.out.trans (hb1.mono HB0.out.size))
  clear hb1
  go_wp2_with fail
  go_ret2
  exact ⟨_, rfl, World.ownsRow_nil _ _ _ _, HB1.out⟩
theorem cdB_ok {gs : List Int} {h q : Int} {s : ByteArray} (hs : hnB gs h q = true) (hk : knB s = true) : cdB gs h q s = 0 := by simp [cdB, hs, hk]
set_option maxRecDepth 100000 in
set_option maxHeartbeats 8000000 in
theorem ReachableHands_s0 (v : Value) (gs : List Int) (h q : Int) (s : ByteArray) (w : World) (hv : Sl w v gs) (hsz : s.size ≤ 9223372036854775807) (hs : hnB gs h q = true) (hk : knB s = true) :
    Calls Tryd.prog 45 #[.agg #[v], .agg #[.int .i64 h, .int .i64 q], .string s] w fun e w' => ∃ v', e = .returned (.tuple #[v', .int .i64 0]) ∧ w'.ownsRow w.heap.size 28 2 v' (rcL gs h q s).length (P64 (rcL gs h q s)) ∧ Below w.heap.size w w' := by
  have HCd := Lib.hid (fun w' (hb : Below w.heap.size w w') => l23Code_any v gs h q s w' (hv.below hb) hsz)
  obtain ⟨hw, hx⟩ := hnB_iff.1 hs
  obtain ⟨-, h1, h24⟩ := whB_iff.1 hw
  have HS := Lib.hid (fun w' (hb : Below w.heap.size w w') => l23Search_any v gs h q s w' (hv.below hb) hw hx hsz)
  have HT := Lib.hid (waysOf_ok s h1 hx).1
  have HBad := Lib.hid (cdB_ok hs hk)
  have HR := Lib.hid (show rcL gs h q s = srtP (stW (waysOf gs h q s)) (waysOf gs h q s).length from rfl)
  clear hv hw hx hs hk
  go_enter Tryd.func45, Tryd.ntmps45
  obtain ⟨k0, k1⟩ := bx2 w 31 28 #[v] #[.int .i64 h, .int .i64 q]
  have HK0 := Lib.hid k0
  have HK1 := Lib.hid k1
  clear k0 k1
  go_wp2_with fail
  refine (HCd.out _ (by go_grown)).mono ?_
  rintro e w1 ⟨rfl, hb1⟩
  rw [HBad.out]
  have J0 := HK0.out.below hb1
  have J1 := HK1.out.below hb1
  have q0 := J0.cell 0 rfl
  have q1 := J1.cell 0 rfl
  have q2 := J1.cell 1 rfl
  have HB1 := Lib.hid (show Below w.heap.size w w1 from Below.trans (by go_grown) (hb1.mono (by simp; omega)))
  obtain ⟨L, hL⟩ : ∃ L, L = waysOf gs h q s := ⟨_, rfl⟩
  rw [← hL] at HT HR HS
  clear hb1 HK0 HK1 J0 J1 hL
  go_wp2_with fail
  refine (HS.out _ HB1.out).mono ?_
  rintro e w2 ⟨v1, v2, rfl, ho1, ho2, hb2⟩
  have HB2 := Lib.hid (HB1.out.trans (hb2.mono HB1.out.size))
  have hcnt := HT.out.count
  have hsl : (stW L).length = L.length := stW_length L
  obtain ⟨A1, c1, rfl⟩ := own_form ho1
  obtain ⟨A2, c2, rfl⟩ := own_form ho2
  have HG := Lib.hid (l23Sort_any (.slice A1 L.length c1) (stW L) w2 (SlP.of_own (by rw [hsl]; exact ho1)) (by omega))
  have hsl2 := Lib.hid hsl
  clear ho1 ho2 hb2 q0 q1 q2 hsl
  go_wp2_with fail
  refine HG.out.mono ?_
  rintro e w3 ⟨v', rfl, ho3, hb3⟩
  obtain ⟨A3, c3, rfl⟩ := own_form ho3
  have HO3 := Lib.hid ho3
  have HB3 := Lib.hid (HB2.out.trans (hb3.mono HB2.out.size))
  clear ho3 hb3
  go_wp2_with fail
  go_ret2
  refine ⟨_, rfl, ?_, HB3.out⟩
  have := HO3.out
  rw [hsl2.out] at this
  rw [HR.out, hsl2.out]
  exact own_mono this HB2.out.size
set_option maxHeartbeats 4000000 in
theorem ReachableHands_s1 (v : Value) (gs : List Int) (h q : Int) (s : ByteArray) (w : World) (hv : Sl w v gs) (hsz : s.size ≤ 9223372036854775807) (hbad : ¬ cdB gs h q s = 0) :
    Calls Tryd.prog 45 #[.agg #[v], .agg #[.int .i64 h, .int .i64 q], .string s] w fun e w' => ∃ v', e = .returned (.tuple #[v', .int .i64 (cdB gs h q s)]) ∧ w'.ownsRow w.heap.size 28 2 v' ([] : List (Int × Int)).length (P64 ([] : List (Int × Int))) ∧ Below w.heap.size w w' := by
  have HCd := Lib.hid (fun w' (hb : Below w.heap.size w w') => l23Code_any v gs h q s w' (hv.below hb) hsz)
  obtain ⟨k, hk⟩ : ∃ k, k = cdB gs h q s := ⟨_, rfl⟩
  rw [← hk] at HCd hbad ⊢
  have hne : (k != 0) = true := by simpa using hbad
  clear hv hk
  go_enter Tryd.func45, Tryd.ntmps45
  go_wp2_with fail
  refine (HCd.out _ (by go_grown)).mono ?_
  rintro e w1 ⟨rfl, hb1⟩
  have HB1 := Lib.hid (show Below w.heap.size w w1 from Below.trans (by go_grown) (hb1.mono (by simp; omega)))
  clear hb1
  go_wp2_with fail
  go_ret2
  exact ⟨_, rfl, World.ownsRow_nil _ _ _ _, HB1.out⟩
/-- Program and reference return the same. -/
theorem ReachableHands_both (gs : List Int) (h q : Int) (s : ByteArray) (hsz : s.size ≤ 9223372036854775807) : ∃ (rl : List (Int × Int)) (rc : Int), rl.length ≤ 3000 ∧
    (∀ v w, Sl w v gs → Calls Tryd.prog 46 #[.agg #[v], .agg #[.int .i64 h, .int .i64 q], .string s] w fun e w' => ∃ v', e = .returned (.tuple #[v', .int .i64 rc]) ∧ w'.ownsRow w.heap.size 28 2 v' rl.length (P64 rl) ∧ Below w.heap.size w w') ∧
    (∀ v w, Sl w v gs → Calls Tryd.prog 45 #[.agg #[v], .agg #[.int .i64 h, .int .i64 q], .string s] w fun e w' => ∃ v', e = .returned (.tuple #[v', .int .i64 rc]) ∧ w'.ownsRow w.heap.size 28 2 v' rl.length (P64 rl) ∧ Below w.heap.size w w') := by
  cases hs : hnB gs h q with
  | false =>
    have e : cdB gs h q s = 1 := by simp [cdB, hs]
    refine ⟨[], 1, Nat.zero_le _, fun v w hv => ReachableHands_i1 v gs h q s w hv hs, fun v w hv => ?_⟩
    have := ReachableHands_s1 v gs h q s w hv hsz (by omega)
    rwa [e] at this
  | true =>
    cases hk : knB s with
    | false =>
      have e : cdB gs h q s = 7 := by simp [cdB, hs, hk]
      refine ⟨[], 7, Nat.zero_le _, fun v w hv => ReachableHands_i7 v gs h q s w hv hsz hs hk, fun v w hv => ?_⟩
      have := ReachableHands_s1 v gs h q s w hv hsz (by omega)
      rwa [e] at this
    | true =>
      obtain ⟨hw, hx⟩ := hnB_iff.1 hs
      obtain ⟨-, h1, h24⟩ := whB_iff.1 hw
      have hc := (waysOf_ok s h1 hx).1.count
      exact ⟨rcL gs h q s, 0, by rw [rcL_length]; omega, fun v w hv => ReachableHands_i0 v gs h q s w hv hsz hs hk, fun v w hv => ReachableHands_s0 v gs h q s w hv hsz hs hk⟩
end Go.Proofs.YtfddibdncniekaaDoor
