/- Hands: the draws of texts give some text. -/
import Derived.Test.YtfddibdncniekaaDoorDrI
namespace Go.Proofs.YtfddibdncniekaaDoor
open Go.RowKit
attribute [local go_sem ↓] Go.wp_at_zero Go.wp_at_succ

set_option maxHeartbeats 2000000 in
theorem text_any (W w : World) (g : Nat) (v : Value) (bs : List Int) (k : Nat) (h : Src W w g v bs k) (hk : k ≤ 1000000000) (b n c M : Nat) (hc : c ≤ 9223372036854775807) (hne : b ≠ g) (hn : 0 < n) (hl : n ≤ c)
    (hcs : ∀ j, j < n → ∃ t : ByteArray, t.size ≤ M ∧ w.cell? ⟨b, j, none⟩ = some (.string t)) (hb : b < w.heap.size) :
    Calls Tryd.prog 92 #[.pointer (some ⟨g, 0, none⟩), .slice (some ⟨b, 0, none⟩) n c] w fun e w' => ∃ t : ByteArray, t.size ≤ M ∧ e = .returned (.string t) ∧ Src W w' g v bs (k + 2) ∧ w.grownBy w' (some g) := by
  have HP := Lib.hid (pick_any W w g v bs k h hk n (by omega))
  have HC := Lib.hid hcs
  clear h hcs
  go_enter Tryd.func92, Tryd.ntmps92
  go_wp2_with fail
  refine HP.out.mono ?_
  rintro e w1 ⟨x, ⟨x0, x1⟩, rfl, hs, hg⟩
  obtain ⟨j, rfl⟩ := Int.eq_ofNat_of_zero_le x0
  have hj : j < n := by omega
  obtain ⟨t, ht, hcell⟩ := HC.out j hj
  have a0 : w1.cell? ⟨b, j, none⟩ = some (.string t) := (hg.cell hcell (by simpa using hne))
  have hb1 : b < w1.heap.size := Nat.lt_of_lt_of_le hb hg.size
  have HT := Lib.hid ht
  have HS := Lib.hid hs
  have HG := Lib.hid hg
  have i1 : (j : Int) < (n : Int) := by omega
  clear hs hg HP HC ht hcell
  go_wp2
  go_ret
  exact ⟨_, HT.out, rfl, HS.out, HG.out⟩
def TextP (W w : World) (g : Nat) (vb : Value) (bs : List Int) (k M : Nat) (e : Ending) (w' : World) : Prop :=
  ∃ t : ByteArray, e = .returned (.string t) ∧ t.size ≤ M ∧ Src W w' g vb bs k ∧ w.grownBy w' (some g)
theorem lit_txt {w : World} {b : Nat} {t : TypeId} {cs : Array Value} {M : Nat} (h : Blk w b t cs) (hs : ∀ j, j < cs.size → ∃ t : ByteArray, t.size ≤ M ∧ cs[j]? = some (.string t)) : ∀ j, j < cs.size → ∃ t : ByteArray, t.size ≤ M ∧ w.cell? ⟨b, j, none⟩ = some (.string t) := fun j hj => by
  obtain ⟨t, h1, h2⟩ := hs j hj
  exact ⟨t, h1, h.cell j h2⟩
def txA : Array Value := #[.string ⟨#[102]⟩, .string ⟨#[102]⟩, .string ⟨#[98]⟩, .string ⟨#[108]⟩]
def txB : Array Value := #[.string ⟨#[120]⟩, .string ⟨#[70]⟩, .string ⟨#[32]⟩]
theorem txA_ok : ∀ j, j < txA.size → ∃ t : ByteArray, t.size ≤ 3 ∧ txA[j]? = some (.string t) := fun j hj => by
  have hj' : j < 4 := hj
  rcases (show j = 0 ∨ j = 1 ∨ j = 2 ∨ j = 3 by omega) with rfl | rfl | rfl | rfl
  · exact ⟨⟨#[102]⟩, by decide, rfl⟩
  · exact ⟨⟨#[102]⟩, by decide, rfl⟩
  · exact ⟨⟨#[98]⟩, by decide, rfl⟩
  · exact ⟨⟨#[108]⟩, by decide, rfl⟩
theorem txB_ok : ∀ j, j < txB.size → ∃ t : ByteArray, t.size ≤ 3 ∧ txB[j]? = some (.string t) := fun j hj => by
  have hj' : j < 3 := hj
  rcases (show j = 0 ∨ j = 1 ∨ j = 2 by omega) with rfl | rfl | rfl
  · exact ⟨⟨#[120]⟩, by decide, rfl⟩
  · exact ⟨⟨#[70]⟩, by decide, rfl⟩
  · exact ⟨⟨#[32]⟩, by decide, rfl⟩

set_option maxRecDepth 100000 in
set_option maxHeartbeats 8000000 in
theorem l23DrawActions_any (W w : World) (g : Nat) (vb : Value) (bs : List Int) (k : Nat) (h : Src W w g vb bs k) (hk : k ≤ 100000) (most : Int) (hm0 : 0 ≤ most) (hm : most ≤ 62) :
    Calls Tryd.prog 69 #[.pointer (some ⟨g, 0, none⟩), .int .i64 most] w (TextP W w g vb bs (k + 200) 300) := by
  have HP : Hid (∀ e w', (∃ t : ByteArray, e = .returned (.string t) ∧ t.size ≤ 300 ∧ Src W w' g vb bs (k + 200) ∧ w.grownBy w' (some g)) → TextP W w g vb bs (k + 200) 300 e w') := fun e w' h => h
  have hg := h.lt
  have HS := Lib.hid h
  clear h
  go_enter Tryd.func69, Tryd.ntmps69
  go_wp2_with fail
  refine (pick_any W _ g vb bs k HS.out (by omega) _ (by omega)).mono ?_
  rintro e w1 ⟨x, ⟨x0, x1⟩, rfl, hs, hg1⟩
  obtain ⟨X, rfl⟩ := Int.eq_ofNat_of_zero_le x0
  have hX : X ≤ 62 := by omega
  have HS1 := Lib.hid hs
  have HG1 := Lib.hid hg1
  clear hs hg1 HS x0 x1
  go_wp2_with fail
  go_loopw [5, 6] (fun a5 a6 wr => ∃ (t : ByteArray) (j : Nat), a5 = .string t ∧ a6 = .int .i64 (j : Int) ∧ j ≤ 62 ∧ t.size + 3 * j ≤ 200 ∧ Hid (Src W wr g vb bs (k + 2 + 2 * (62 - j))) ∧ Hid (w.grownBy wr (some g))) (fun _ a _ => (intOf a).toNat)
  case atStart => exact ⟨⟨#[]⟩, X, rfl, by go_num, hX, (by show 0 + 3 * X ≤ 200; omega), Lib.hid (HS1.out.mono (by omega)), HG1⟩
  case round =>
    obtain ⟨t, j, rfl, rfl, hj, hts, hS, hG⟩ := hrel
    obtain ⟨wi, rfl⟩ : ∃ y : World, y = wr := ⟨_, rfl⟩
    have hgl := hS.out.lt
    by_cases hj0 : 0 < j
    · have i1 : (0 : Int) < (j : Int) := by omega
      have k3 : Blk (wi.alloc (.cells txA 9)) wi.heap.size 9 txA := Blk.new _ _ _
      have K3 := Lib.hid (lit_txt k3 txA_ok)
      have Z3 := Lib.hid k3.lt
      have S3 := Lib.hid (hS.out.below (w' := wi.alloc (.cells txA 9)) (by go_grown))
      have G3 := Lib.hid (grown_trans hG.out (grown_of_below (show Below wi.heap.size wi (wi.alloc (.cells txA 9)) by go_grown) _))
      clear k3
      go_wp2_with fail
      refine (text_any W (wi.alloc (.cells txA 9)) g vb bs _ S3.out (by omega) wi.heap.size 4 4 3 (by decide) (by omega) (by decide) (by decide) K3.out Z3.out).mono ?_
      rintro e w5 ⟨u, hu, rfl, hs, hg5⟩
      have S5 := Lib.hid hs
      have G5 := Lib.hid (grown_trans G3.out hg5)
      have e1 : t.size + u.size ≤ 9223372036854775807 := by omega
      have e2 : ¬ 9223372036854775807 < t.size + u.size := by omega
      have hsz : (t ++ u).size = t.size + u.size := by simp
      have HSZ := Lib.hid hsz
      clear hs hg5 K3 Z3 S3 G3 hsz
      go_wp2_with fail
      go_roundw
      case rel => exact ⟨t ++ u, j - 1, rfl, by go_num, by omega, by have := HSZ.out; omega, Lib.hid (S5.out.mono (by omega)), G5⟩
      case measure => simp [intOf]; omega
    · obtain rfl : j = 0 := by omega
      have hS1 := Lib.hid hS.out
      go_wp2_with fail
      refine (one_any W _ g vb bs _ hS1.out (by omega) _ (by omega)).mono ?_
      rintro e w5 ⟨b, rfl, hs, hg5⟩
      have S5 := Lib.hid hs
      have G5 := Lib.hid (grown_trans hG.out hg5)
      have hgl5 := hs.lt
      clear hs hg5 hS hG hS1
      cases b with
      | false =>
        go_wp2_with fail
        go_ret
        exact HP.out _ _ ⟨t, rfl, by omega, S5.out.mono (by omega), G5.out⟩
      | true =>
        have k3 : Blk (w5.alloc (.cells txB 9)) w5.heap.size 9 txB := Blk.new _ _ _
        have K3 := Lib.hid (lit_txt k3 txB_ok)
        have Z3 := Lib.hid k3.lt
        have S3 := Lib.hid (S5.out.below (w' := w5.alloc (.cells txB 9)) (by go_grown))
        have G3 := Lib.hid (grown_trans G5.out (grown_of_below (show Below w5.heap.size w5 (w5.alloc (.cells txB 9)) by go_grown) _))
        clear k3 S5 G5
        go_wp2_with fail
        refine (text_any W (w5.alloc (.cells txB 9)) g vb bs _ S3.out (by omega) w5.heap.size 3 3 3 (by decide) (by omega) (by decide) (by decide) K3.out Z3.out).mono ?_
        rintro e w7 ⟨u, hu, rfl, hs, hg7⟩
        have S7 := Lib.hid hs
        have G7 := Lib.hid (grown_trans G3.out hg7)
        have e1 : t.size + u.size ≤ 9223372036854775807 := by omega
        have e2 : ¬ 9223372036854775807 < t.size + u.size := by omega
        have hsz : (t ++ u).size = t.size + u.size := by simp
        have HSZ := Lib.hid hsz
        clear hs hg7 K3 Z3 S3 G3 hsz
        go_wp2_with fail
        go_ret
        exact HP.out _ _ ⟨t ++ u, rfl, by have := HSZ.out; omega, S7.out.mono (by omega), G7.out⟩
end Go.Proofs.YtfddibdncniekaaDoor
