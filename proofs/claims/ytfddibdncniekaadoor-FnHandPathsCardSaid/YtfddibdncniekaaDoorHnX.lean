/- Hands: l23Set and l23Search in the reference: the actions of a text, and all states that they lead to, with their paths. -/
import Derived.Test.YtfddibdncniekaaDoorHnW
import Derived.Test.YtfddibdncniekaaDoorPxHandState
import Derived.Laws.DeepStrings4
import Derived.Deep.RegionHeld3
namespace Go.Proofs.YtfddibdncniekaaDoor
open Go.RowKit
attribute [local go_sem ↓] Go.wp_at_zero Go.wp_at_succ

theorem ex1 {t : ByteArray} {k : Nat} (h : k < t.size) : t.extract k (k + 1) = by1 (bY t k) := by
  apply ByteArray.ext
  rw [bY_eq h]
  apply Array.ext
  · simp [by1]
    have : k < t.data.size := h
    omega
  · intro i h1 h2
    have h3 : i < 1 := h2
    obtain rfl : i = 0 := by omega
    simp [by1]
/-- The actions of a text, as a text. -/
def setF (s : ByteArray) (c : Nat) : ByteArray := ⟨(fA s c).toArray⟩
def setS (s : ByteArray) : ByteArray := setF s 3
theorem setF_in {s : ByteArray} {c : Nat} (hc : c < 3) (h : bB c ∈ s.data.toList) : setF s (c + 1) = setF s c ++ by1 (bB c) := by
  apply ByteArray.ext
  simp [setF, fA_in hc h, by1]
theorem setF_out {s : ByteArray} {c : Nat} (hc : c < 3) (h : ¬ bB c ∈ s.data.toList) : setF s (c + 1) = setF s c := by rw [setF, fA_out hc h]; rfl
theorem setF_size (s : ByteArray) (c : Nat) : (setF s c).size ≤ 3 := by
  have h1 : (fA s c).length ≤ (bfl.take c).length := List.length_filter_le _ _
  have h2 : (bfl.take c).length ≤ 3 := by rw [List.length_take]; exact Nat.min_le_right _ _
  show ((fA s c).toArray).size ≤ 3
  simp; omega
theorem mem_bY {s : ByteArray} {b : UInt8} (h : b ∈ s.data.toList) : ∃ j, j < s.size ∧ bY s j = b := by
  obtain ⟨j, hj, e⟩ := List.getElem_of_mem h
  have hj2 : j < s.size := by simpa using hj
  exact ⟨j, hj2, by rw [bY_eq hj2]; exact e⟩
theorem bY_mem {s : ByteArray} {j : Nat} (h : j < s.size) : bY s j ∈ s.data.toList := by rw [bY_eq h]; exact List.getElem_mem _

theorem chr_eq {s K : ByteArray} {i c : Nat} (hi : i < s.size) (hc : c < K.size) (h : bY s i = bY K c) : ((s[i]'hi).toNat : Int) = ((K[c]'hc).toNat : Int) := by
  rw [bY_eq hi, bY_eq hc] at h
  have h2 : s[i] = K[c] := h
  rw [h2]
theorem chr_ne {s K : ByteArray} {i c : Nat} (hi : i < s.size) (hc : c < K.size) (h : ¬ bY s i = bY K c) : ¬ ((s[i]'hi).toNat : Int) = ((K[c]'hc).toNat : Int) := fun e => h (by
  rw [bY_eq hi, bY_eq hc]
  have h2 : s[i].toNat = K[c].toNat := by omega
  exact UInt8.toNat_inj.1 h2)
/-- Byte b is not among the first i. -/
def NotB (s : ByteArray) (b : UInt8) (i : Nat) : Prop := ∀ j, j < i → ¬ bY s j = b
theorem NotB.zero (s : ByteArray) (b : UInt8) : NotB s b 0 := fun _ h => absurd h (Nat.not_lt_zero _)
theorem NotB.succ {s : ByteArray} {b : UInt8} {k : Nat} (h : NotB s b k) (he : ¬ bY s k = b) : NotB s b (k + 1) := fun j hj => by
  rcases Nat.lt_or_ge j k with h3 | h3
  · exact h j h3
  · have : j = k := by omega
    subst this; exact he
theorem NotB.all {s : ByteArray} {b : UInt8} (h : NotB s b s.size) : ¬ b ∈ s.data.toList := fun hb => by
  obtain ⟨j, hj, e⟩ := mem_bY hb
  exact h j hj e

set_option maxHeartbeats 4000000 in
theorem l23Set_any (s : ByteArray) (w : World) (hs : s.size ≤ 9223372036854775807) :
    Calls Tryd.prog 85 #[.string s] w fun e w' => e = .returned (.string (setS s)) ∧ Below w.heap.size w w' := by
  obtain ⟨K, hK⟩ : ∃ K : ByteArray, K = ⟨#[98, 102, 108]⟩ := ⟨_, rfl⟩
  have hKs : K.size = 3 := by rw [hK]; rfl
  have HKb := Lib.hid (show ∀ c, bY K c = bB c from fun c => by rw [hK]; rfl)
  go_enter Tryd.func85, Tryd.ntmps85
  rw [← hK]
  clear hK
  go_wp2_with fail
  go_loopw [3, 5] (fun o a wr => ∃ c : Nat, c ≤ 3 ∧ a = .int .i64 (c : Int) ∧ o = .string (setF s c) ∧ Below w.heap.size w wr) (fun _ a _ => 3 - (intOf a).toNat)
  case atStart => exact ⟨0, by omega, by go_num, rfl, Below.refl _ _⟩
  case round =>
    obtain ⟨c, hc, rfl, rfl, hB⟩ := hrel
    obtain ⟨wo, rfl⟩ : ∃ y : World, y = wr := ⟨_, rfl⟩
    by_cases hc3 : c < 3
    · have i1 : (c : Int) < 3 := by omega
      have hcK : c < K.size := by omega
      have hzF := setF_size s c
      have HB := Lib.hid hB
      clear hB
      go_wp2_with fail
      go_loopw [3, 6] (fun o a wi => ∃ i : Nat, i ≤ s.size ∧ a = .int .i64 (i : Int) ∧ o = .string (setF s c) ∧ Hid (NotB s (bB c) i) ∧ Hid (Below w.heap.size w wi)) (fun _ a _ => s.size - (intOf a).toNat)
      case atStart => exact ⟨0, by omega, by go_num, rfl, Lib.hid (NotB.zero _ _), HB⟩
      case round =>
        obtain ⟨i, hi, rfl, rfl, hN, hB⟩ := hrel
        by_cases hlt : i < s.size
        · have i2 : (i : Int) < (s.size : Int) := by omega
          by_cases he : bY s i = bB c
          · have e1 := chr_eq hlt hcK (he.trans (HKb.out c).symm)
            have HE := Lib.hid (show setF s (c + 1) = setF s c ++ K.extract c (c + 1) by rw [ex1 hcK, HKb.out c]; exact setF_in hc3 (by rw [← he]; exact bY_mem hlt))
            clear he
            have hx : (K.extract c (c + 1)).size = 1 := by rw [ex1 hcK]; rfl
            go_wp2_with fail
            go_quiet (fail)
            go_wp2_with fail
            go_roundw
            case rel => exact ⟨c + 1, by omega, by go_num, by rw [HE.out], by first | exact hB.out | exact below_drewN hB.out _⟩
            case measure => simp [intOf]; omega
          · have e1 := chr_ne hlt hcK (fun h => he (h.trans (HKb.out c)))
            have HN := Lib.hid (hN.out.succ he)
            clear he
            go_wp2_with fail
            go_quiet (fail)
            go_wp2_with fail
            go_roundw
            case rel => exact ⟨i + 1, by omega, by go_num, rfl, HN, Lib.hid (by first | exact hB.out | exact below_drewN hB.out _)⟩
            case measure => simp [intOf]; omega
        · obtain rfl : i = s.size := by omega
          have HE := Lib.hid (setF_out hc3 hN.out.all)
          go_wp2_with fail
          go_roundw
          case rel => exact ⟨c + 1, by omega, by go_num, by rw [HE.out], hB.out⟩
          case measure => simp [intOf]; omega
    · obtain rfl : c = 3 := by omega
      go_wp2_with fail
      go_ret
      exact ⟨rfl, hB⟩
end Go.Proofs.YtfddibdncniekaaDoor
