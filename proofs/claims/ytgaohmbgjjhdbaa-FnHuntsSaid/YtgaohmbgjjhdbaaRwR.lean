/- Lists of lists of numbers that came in: words, and contracts of the helpers szInt64SS, toInt64SS, eqInt64SS, markInt64SS. -/
import Derived.Test.YtgaohmbgjjhdbaaRwB
import Derived.Test.YtgaohmbgjjhdbaaCpy
namespace Go.Proofs.Ytgaohmbgjjhdbaa
open Go.RowKit
attribute [local go_sem ↓] Go.wp_at_zero Go.wp_at_succ
attribute [local go_sem] cell?_grow frozen?_grow

/-- List i; the empty one behind the end. -/
def rx (R : List (List Int)) (i : Nat) : List Int := R.getD i []
/-- A slice's value that reads as the lists R. -/
def RdR (w : World) (v : Value) (R : List (List Int)) : Prop :=
  ∃ A c, v = .slice A R.length c ∧ R.length ≤ c ∧ c ≤ maxLen ∧ ∀ i, i < R.length → ∃ b o, A = some ⟨b, o, none⟩ ∧ b < w.heap.size ∧ ∃ u, w.cell? ⟨b, o + i, none⟩ = some u ∧ Sl w u (rx R i)
section
variable {w w' : World} {v : Value} {R : List (List Int)}
theorem RdR.below (h : RdR w v R) (hb : Below w.heap.size w w') : RdR w' v R := by
  obtain ⟨A, c, rfl, h1, h2, h3⟩ := h
  refine ⟨A, c, rfl, h1, h2, fun i hi => ?_⟩
  obtain ⟨b, o, e, hl, u, hu, hs⟩ := h3 i hi
  exact ⟨b, o, e, Nat.lt_of_lt_of_le hl hb.size, u, (hb.cell (p := ⟨b, o + i, none⟩) hl).trans hu, hs.below hb⟩
theorem RdR.form (h : RdR w v R) : ∃ A c, v = .slice A R.length c ∧ R.length ≤ c ∧ c ≤ 9223372036854775807 := by
  obtain ⟨A, c, rfl, h1, h2, _⟩ := h
  exact ⟨A, c, rfl, h1, by simpa only [maxLen] using h2⟩
theorem RdR.at_ {A : Option Addr} {n c : Nat} (h : RdR w (.slice A n c) R) {i : Nat} (hi : i < R.length) : ∃ b o Au cu, A = some ⟨b, o, none⟩ ∧ b < w.heap.size ∧ w.cell? ⟨b, o + i, none⟩ = some (.slice Au (rx R i).length cu) ∧ Sl w (.slice Au (rx R i).length cu) (rx R i) := by
  obtain ⟨A', c', e, h1, h2, h3⟩ := h
  injection e with e1 e2 e3
  subst e1
  obtain ⟨b, o, e, hl, u, hu, hs⟩ := h3 i hi
  obtain ⟨Au, cu, rfl, _⟩ := hs.open_
  exact ⟨b, o, Au, cu, e, hl, hu, hs⟩
theorem RdR.of_rows {base : Nat} (h : RowsAt w base v R.length (rx R)) : RdR w v R := by
  obtain ⟨A, c, e, h1⟩ := h.form
  have h' := h
  obtain ⟨vs, ho, _⟩ := h'
  obtain ⟨A', c', e', _, hm, _⟩ := SlC.of_own ho
  rw [e] at e'
  injection e' with e1 _ e3
  subst e1 e3
  refine ⟨A, c, e, h1, hm, fun i hi => ?_⟩
  obtain ⟨g, c2, u, hv, _, hg, hu, hou, _⟩ := h.at_ hi
  rw [e] at hv
  injection hv with e1 _ _
  exact ⟨g, 0, e1, hg, u, by simpa using hu, Sl.of_own hou⟩
end
/-- How many numbers the first k lists hold. -/
def sumTo (R : List (List Int)) : Nat → Nat
  | 0 => 0
  | k + 1 => sumTo R k + (rx R k).length
theorem sumTo_mono (R : List (List Int)) {j k : Nat} (h : j ≤ k) : sumTo R j ≤ sumTo R k := by
  induction h with
  | refl => exact Nat.le_refl _
  | step h ih => rw [sumTo]; omega
def totR (R : List (List Int)) : Nat := R.length + sumTo R R.length
theorem row_le {R : List (List Int)} {i : Nat} (h : i < R.length) : (rx R i).length ≤ sumTo R R.length := by
  have h1 := sumTo_mono R (show i + 1 ≤ R.length by omega)
  rw [sumTo] at h1; omega

set_option maxHeartbeats 2000000 in
theorem szRows_fits (v : Value) (R : List (List Int)) (left : Int) (w : World) (hv : RdR w v R) (h : (totR R : Int) ≤ left) (hl : left ≤ 1048576) :
    Calls Try.prog 9 #[v, .int .i64 left] w fun e w' => e = .returned (.int .i64 (left - totR R)) ∧ w = w' := by
  have HV := Lib.hid hv
  obtain ⟨A, c, rfl, hac, hac'⟩ := hv.form
  have ht : (totR R : Int) = (R.length : Int) + (sumTo R R.length : Int) := by unfold totR; omega
  have HT := Lib.hid ht
  rw [ht] at h
  clear hv ht
  go_enter Try.func9, Try.ntmps9
  go_wp2
  go_loopw [1, 5] (fun q i wr => ∃ j : Nat, j ≤ R.length ∧ i = .int .i64 j ∧ q = .int .i64 (left - R.length - sumTo R j) ∧ wr = w) (fun _ i _ => R.length - (intOf i).toNat)
  case atStart => exact ⟨0, Nat.zero_le _, rfl, by simp [sumTo], rfl⟩
  case round =>
    obtain ⟨j, hj, rfl, rfl, rfl⟩ := hrel
    by_cases hlt : j < R.length
    · obtain ⟨b, o, Au, cu, rfl, hb, hu, hs⟩ := HV.out.at_ hlt
      have i1 : (j : Int) < (R.length : Int) := by omega
      have h1 := sumTo_mono R (show j + 1 ≤ R.length by omega)
      have h2 : sumTo R (j + 1) = sumTo R j + (rx R j).length := rfl
      have HS := Lib.hid hs
      have e1 : left - (R.length : Int) - (sumTo R j : Int) - ((rx R j).length : Int) = left - (R.length : Int) - (sumTo R (j + 1) : Int) := by omega
      have hge : ¬ left - (R.length : Int) - (sumTo R (j + 1) : Int) < 0 := by omega
      clear hs
      go_wp2_with fail
      refine (szInt64S_fits _ (rx R j) _ _ HS.out (by omega) (by omega)).mono ?_
      rintro e w' ⟨rfl, rfl⟩
      rw [e1]
      clear h2 e1
      go_wp2
      go_roundw
      case rel => exact ⟨j + 1, by omega, by go_num, by go_num, by first | rfl | simp⟩
      case measure => simp [intOf]; omega
    · obtain rfl : j = R.length := by omega
      go_wp2
      go_ret
      exact ⟨ret_i (by rw [HT.out]; omega), rfl⟩
theorem sum_cross {R : List (List Int)} {a : Int} : ∀ k : Nat, a < (sumTo R k : Int) → 0 ≤ a → ∃ j, j < k ∧ (sumTo R j : Int) ≤ a ∧ a < (sumTo R (j + 1) : Int)
  | 0, h, h0 => by simp [sumTo] at h; omega
  | k + 1, h, h0 => by
    by_cases h1 : a < (sumTo R k : Int)
    · obtain ⟨j, h2, h3, h4⟩ := sum_cross k h1 h0
      exact ⟨j, by omega, h3, h4⟩
    · exact ⟨k, by omega, by omega, h⟩
set_option maxHeartbeats 2000000 in
theorem szRows_big (v : Value) (R : List (List Int)) (left : Int) (w : World) (hv : RdR w v R) (h : left < (totR R : Int)) (h0 : 0 ≤ left) (hl : left ≤ 1048576) :
    Calls Try.prog 9 #[v, .int .i64 left] w fun e w' => e = .returned (.int .i64 (-1)) ∧ w = w' := by
  have HV := Lib.hid hv
  obtain ⟨A, c, rfl, hac, hac'⟩ := hv.form
  have ht : (totR R : Int) = (R.length : Int) + (sumTo R R.length : Int) := by unfold totR; omega
  rw [ht] at h
  clear hv ht
  by_cases hR : left < (R.length : Int)
  · go_enter Try.func9, Try.ntmps9
    go_wp2
    go_ret
    exact ⟨rfl, rfl⟩
  · obtain ⟨t, ht1, ht2, ht3⟩ := sum_cross (R := R) (a := left - R.length) R.length (by omega) (by omega)
    have hge0 : ¬ left - (R.length : Int) < 0 := by omega
    have HT3 := Lib.hid ht3
    clear ht3 hR
    go_enter Try.func9, Try.ntmps9
    go_wp2
    go_loopw [1, 5] (fun q i wr => ∃ j : Nat, j ≤ t ∧ i = .int .i64 j ∧ q = .int .i64 (left - R.length - sumTo R j) ∧ wr = w) (fun _ i _ => R.length - (intOf i).toNat)
    case atStart => exact ⟨0, Nat.zero_le _, rfl, by simp [sumTo], rfl⟩
    case round =>
      obtain ⟨j, hj, rfl, rfl, rfl⟩ := hrel
      have hlt : j < R.length := by omega
      obtain ⟨b, o, Au, cu, rfl, hb, hu, hs⟩ := HV.out.at_ hlt
      have i1 : (j : Int) < (R.length : Int) := by omega
      have h1 := sumTo_mono R (show j ≤ t by omega)
      have HS := Lib.hid hs
      clear hs
      by_cases hjt : j = t
      · subst hjt
        have h2 : sumTo R (j + 1) = sumTo R j + (rx R j).length := rfl
        have hbig : left - (R.length : Int) - (sumTo R j : Int) < ((rx R j).length : Int) := by have := HT3.out; omega
        clear h2
        go_wp2_with fail
        refine (szInt64S_big _ (rx R j) _ _ HS.out hbig (by omega)).mono ?_
        rintro e w' ⟨rfl, rfl⟩
        go_wp2
        go_ret
        exact ⟨rfl, rfl⟩
      · have h1 := sumTo_mono R (show j + 1 ≤ t by omega)
        have h2 : sumTo R (j + 1) = sumTo R j + (rx R j).length := rfl
        have e1 : left - (R.length : Int) - (sumTo R j : Int) - ((rx R j).length : Int) = left - (R.length : Int) - (sumTo R (j + 1) : Int) := by omega
        have hge : ¬ left - (R.length : Int) - (sumTo R (j + 1) : Int) < 0 := by omega
        go_wp2_with fail
        refine (szInt64S_fits _ (rx R j) _ _ HS.out (by omega) (by omega)).mono ?_
        rintro e w' ⟨rfl, rfl⟩
        rw [e1]
        clear h2 e1
        go_wp2
        go_roundw
        case rel => exact ⟨j + 1, by omega, by go_num, by go_num, by first | rfl | simp⟩
        case measure => simp [intOf]; omega

theorem bells_rows {w : World} {base g st c : Nat} {L : Nat → List Int} (h : BellsAt w base g st c L) : RowsAt w base (.slice (some ⟨g, 0, none⟩) st c) st L := by
  obtain ⟨vs, ho, hu, hd⟩ := h
  refine ⟨vs, ho, fun i hi => ?_, hd⟩
  obtain ⟨u, h1, h2, h3⟩ := hu i hi
  exact ⟨u, h1, h2, fun b h4 h5 => h3 (by rw [h4]; simpa [Value.ownBlock] using h5.symm)⟩
theorem bells_new (st : Nat) (L : Nat → List Int) (hL : ∀ i, L i = []) (w : World) (base g : Nat) (hown : w.ownsRow base 60 1 (.slice (some ⟨g, 0, none⟩) st st) st (List.replicate st (.slice none 0 0))) : BellsAt w base g st st L := by
  refine ⟨_, hown, fun i hi => ⟨.slice none 0 0, by simp [hi], by rw [hL]; exact World.ownsRow_nil _ _ _ _, by simp [Value.ownBlock]⟩, fun i j u u' _ hu hu' b hb => ?_⟩
  obtain ⟨h1, rfl⟩ := List.getElem?_eq_some_iff.1 hu
  simp [Value.ownBlock] at hb
/-- The first k lists, empty ones behind. -/
def rxTo (R : List (List Int)) (k i : Nat) : List Int := if i < k then rx R i else []

set_option maxRecDepth 100000 in
set_option maxHeartbeats 4000000 in
theorem toRows_any (v : Value) (R : List (List Int)) (w : World) (hv : RdR w v R) (hl : totR R ≤ 1048576) :
    Calls Try.prog 11 #[v] w fun e w' => ∃ v', e = .returned v' ∧ RowsAt w' w.heap.size v' R.length (rx R) ∧ Below w.heap.size w w' := by
  have HV := Lib.hid hv
  obtain ⟨A, c, rfl, hac, hac'⟩ := hv.form
  have hR1 : R.length ≤ 1048576 := by unfold totR at hl; omega
  have hR2 : ∀ i, i < R.length → (rx R i).length ≤ 1048576 := fun i hi => by have := row_le hi; unfold totR at hl; omega
  have HR2 := Lib.hid hR2
  obtain ⟨i0, hi, hz0, hz1, hz2⟩ := info_parts rows_info
  clear hv hR2 hl
  go_enter Try.func11, Try.ntmps11
  go_wp2_with (at_make; refine wpList_make_full _ rfl _ _ 22 rfl w.heap.size 60 i0 _ 1 Try.underlying22 hi hz0 hz1 _ _ _ _ R.length rfl rfl rfl rfl (by rw [hz2]; omega) (by simp only [maxLen]; omega) (Nat.le_refl _) ?_; intro w1 hown hg)
  have HB0 := Lib.hid (bells_new R.length (rxTo R 0) (fun i => by simp [rxTo]) w1 w.heap.size w.heap.size (by
    have e := toList_madeCells_one (.slice none 0 0) R.length
    have h := hown
    simp only [Value.cells, Nat.mul_one] at h
    rw [e] at h
    exact h))
  have HB1 : Hid (Below w.heap.size w w1) := below_of_grown hg (Nat.le_refl _) (fun k hk => by cases hk)
  clear hown hg
  go_wp2
  go_loopw [4] (fun i wr => ∃ j : Nat, j ≤ R.length ∧ i = .int .i64 j ∧ BellsAt wr w.heap.size w.heap.size R.length R.length (rxTo R j) ∧ Below w.heap.size w wr) (fun i _ => R.length - (intOf i).toNat)
  case atStart => exact ⟨0, Nat.zero_le _, rfl, HB0.out, HB1.out⟩
  case round =>
    obtain ⟨j, hj, rfl, hO, hB⟩ := hrel
    have HO := Lib.hid hO
    have HB := Lib.hid hB
    by_cases hlt : j < R.length
    · obtain ⟨ba, oa, Au, cu, rfl, hba, hcu, hs⟩ := HV.out.at_ hlt
      have ca : wr.cell? ⟨ba, oa + j, none⟩ = some (.slice Au (rx R j).length cu) := (hB.cell (p := ⟨ba, oa + j, none⟩) hba).trans hcu
      have zb : ba < wr.heap.size := Nat.lt_of_lt_of_le hba hB.size
      have HS := Lib.hid (hs.below hB)
      have i1 : (j : Int) < (R.length : Int) := by omega
      have hRj := HR2.out j hlt
      clear hO hB hs hcu
      go_wp2_with fail
      refine (toInt64S_any _ (rx R j) _ HS.out hRj).mono ?_
      rintro e w2 ⟨u, rfl, ho2, hb2⟩
      obtain ⟨Au2, cu2, rfl⟩ := own_form ho2
      have HO2 := Lib.hid (HO.out.below hb2)
      obtain ⟨u0, k1, k2, k3, k4, k5, k6⟩ := HO2.out.at_ hlt
      have e0 : rxTo R j j = [] := by simp [rxTo]
      have HE : Hid (rxTo R (j + 1) j = rx R j) := by show _ = _; simp [rxTo]
      obtain ⟨u9, m1, _⟩ := HO.out.at_ hlt
      have HP := Lib.hid (HO.out.put (L' := rxTo R (j + 1)) (v' := .slice Au2 (rx R j).length cu2) hlt m1 (grown_of_below' hb2 _) (fun b hb => Or.inr (ho2.lt b hb).1) (by rw [HE.out]; exact own_mono ho2 (by have := HB.out.size; omega)) (fun i hi => by simp only [rxTo]; by_cases h : i < j <;> simp [h, show (i < j + 1) ↔ (i < j) by omega]))
      have B2 : Below w.heap.size w w2 := HB.out.trans (hb2.mono HB.out.size)
      clear ho2 hb2 HO2
      go_wp2
      go_roundw
      case rel => exact ⟨j + 1, by omega, by go_num, HP.out, by go_grown⟩
      case measure => simp [intOf]; omega
    · obtain rfl : j = R.length := by omega
      go_wp2
      go_ret
      refine ⟨_, rfl, ?_, HB.out⟩
      obtain ⟨vs, ho, hu, hd⟩ := bells_rows HO.out
      refine ⟨vs, ho, fun i hi => ?_, hd⟩
      obtain ⟨u, h1, h2, h3⟩ := hu i hi
      simp only [rxTo, if_pos hi] at h2
      exact ⟨u, h1, h2, h3⟩
end Go.Proofs.Ytgaohmbgjjhdbaa
