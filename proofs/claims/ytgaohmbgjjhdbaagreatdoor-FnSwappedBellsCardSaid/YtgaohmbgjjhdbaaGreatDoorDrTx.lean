/- Chimes: texts drawn (text, l01Spoil, DrawReadBarrel): some text comes back. -/
import Derived.Test.YtgaohmbgjjhdbaaGreatDoorDrY
import Derived.Test.YtgaohmbgjjhdbaaGreatDoorTtS
import Derived.Test.YtgaohmbgjjhdbaaGreatDoorTtI
import Derived.Deep.RegionHeld3
namespace Go.Proofs.YtgaohmbgjjhdbaaGreatDoor
open Go.RowKit
attribute [local go_sem ↓] Go.wp_at_zero Go.wp_at_succ

set_option maxHeartbeats 2000000 in
theorem text_any (W w : World) (g : Nat) (v : Value) (bs : List Int) (k : Nat) (h : Src W w g v bs k) (hk : k ≤ 1000000000) (b : Nat) (L : List (List UInt8)) (hne : b ≠ g) (hL : 0 < L.length) (hL2 : L.length ≤ 1000) (hc : Blk w b 9 (X64 L).toArray) :
    Calls Tryz.prog 59 #[.pointer (some ⟨g, 0, none⟩), .slice (some ⟨b, 0, none⟩) L.length L.length] w fun e w' => ∃ x : List UInt8, x ∈ L ∧ e = .returned (.string (bT x)) ∧ Src W w' g v bs (k + 2) ∧ w.grownBy w' (some g) := by
  have HP := Lib.hid (pick_any W w g v bs k h hk L.length (by omega))
  have HC := Lib.hid hc
  clear h hc
  go_enter Tryz.func59, Tryz.ntmps59
  go_wp2_with fail
  refine HP.out.mono ?_
  rintro e w1 ⟨x, ⟨x0, x1⟩, rfl, hs, hg⟩
  obtain ⟨j, rfl⟩ := Int.eq_ofNat_of_zero_le x0
  have hj : j < L.length := by omega
  obtain ⟨y, hy⟩ : ∃ y, y = L.getD j [] := ⟨_, rfl⟩
  have hK := HC.out.grown hg (by simpa using hne)
  have a0 : w1.cell? ⟨b, j, none⟩ = some (.string (bT y)) := hK.cell j (by simp [X64, List.getD, hj, hy])
  have hb1 := hK.lt
  have HM : Hid (y ∈ L) := by show _ ∈ _; rw [hy]; simp [List.getD, hj]
  have HS := Lib.hid hs
  have HG := Lib.hid hg
  have i1 : (j : Int) < (L.length : Int) := by omega
  clear hs hg HP HC hK hy
  go_wp2
  go_ret
  exact ⟨_, HM.out, rfl, HS.out, HG.out⟩
theorem cut_lo {bt : ByteArray} {t : List UInt8} (h : bt = bT t) (a : Nat) : bt.extract 0 a = bT (t.take a) := by rw [h, bT_cut]; simp
theorem cut_hi {bt : ByteArray} {t : List UInt8} (h : bt = bT t) (a : Nat) : bt.extract a t.length = bT (t.drop a) := by
  rw [h, bT_cut, List.take_of_length_le (by simp)]

set_option maxRecDepth 100000 in
set_option maxHeartbeats 4000000 in
theorem l01Spoil_any (W w : World) (g : Nat) (vb : Value) (bs : List Int) (k : Nat) (h : Src W w g vb bs k) (hk : k ≤ 10000) (t : List UInt8) (ht : t.length ≤ 1000000) :
    Calls Tryz.prog 34 #[.pointer (some ⟨g, 0, none⟩), .string (bT t)] w fun e w' => ∃ t' : List UInt8, e = .returned (.string (bT t')) ∧ t'.length ≤ 1000001 ∧ Src W w' g vb bs (k + 6) ∧ w.grownBy w' (some g) := by
  have hg := h.lt
  have HS := Lib.hid h
  have zt := bT_size t
  obtain ⟨bt, hbt⟩ : ∃ bt, bt = bT t := ⟨_, rfl⟩
  rw [← hbt] at zt ⊢
  have HB := Lib.hid hbt
  clear h hbt
  go_enter Tryz.func34, Tryz.ntmps34
  go_wp2_with fail
  refine (pick_any W _ g vb bs k HS.out (by omega) _ (by omega)).mono ?_
  rintro e w1 ⟨q, ⟨q0, q1⟩, rfl, hs, hg1⟩
  have S1 := Lib.hid hs
  have G1 := Lib.hid hg1
  have z1 := hg1.size
  clear hs hg1 HS
  rcases (show q = 0 ∨ q = 1 ∨ 2 ≤ q by omega) with rfl | rfl | hq
  · have e1 : IntKind.i64.wrap ((bt.size : Int) + 1) = (bt.size : Int) + 1 := IntWalk.i64_in _ (by omega)
    go_wp2_with fail
    refine (pick_any W _ g vb bs _ S1.out (by omega) _ (by omega)).mono ?_
    rintro e w2 ⟨y, ⟨y0, y1⟩, rfl, hs, hg2⟩
    obtain ⟨Y, rfl⟩ := Int.eq_ofNat_of_zero_le y0
    have hY : Y ≤ t.length := by omega
    have S2 := Lib.hid hs
    have G2 := Lib.hid (grown_trans G1.out hg2)
    have z2 := hg2.size
    have i1 : (Y : Int) ≤ (bt.size : Int) := by omega
    have x1 := cut_lo HB.out Y
    have x2 := cut_hi HB.out Y
    obtain ⟨p1, hp1⟩ : ∃ p, p = bT (t.take Y) := ⟨_, rfl⟩
    obtain ⟨p2, hp2⟩ : ∃ p, p = bT (t.drop Y) := ⟨_, rfl⟩
    have zp1 : p1.size ≤ 1000000 := by rw [hp1, bT_size, List.length_take]; omega
    have zp2 : p2.size ≤ 1000000 := by rw [hp2, bT_size, List.length_drop]; omega
    rw [← hp1] at x1
    rw [← hp2] at x2
    have HP1 := Lib.hid hp1
    have HP2 := Lib.hid hp2
    clear hs hg2 S1 G1 y0 y1 hp1 hp2 e1
    have HT := Lib.hid (fun (w : World) (h : Src W w g vb bs (k + 4)) (hb : w2.heap.size ≠ g) (hc : Blk w w2.heap.size 9 #[.string ⟨#[32]⟩, .string ⟨#[48]⟩, .string ⟨#[45]⟩, .string ⟨#[120]⟩, .string ⟨#[49]⟩, .string ⟨#[57]⟩, .string ⟨#[46]⟩]) =>
      text_any W w g vb bs (k + 4) h (by omega) w2.heap.size [[32], [48], [45], [120], [49], [57], [46]] hb (by decide) (by decide) hc)
    have hn9 : w2.heap.size ≠ g := by omega
    go_upto_region 4 with fail
    go_region_held3 (fun _ => True) (exact trivial)
      ((go_at_call 59; refine (HT.out _ (S2.out.below (by go_grown)) hn9 (by first | exact Blk.new _ _ _ | exact (Blk.new _ _ _).drew | exact (Blk.new _ _ _).drewN _)).mono ?_; rintro e w3 ⟨x, hx, rfl, hs, hg3⟩; have S3 := Lib.hid hs; have G3 := Lib.hid (grown_trans G2.out (grown_trans (grown_of_below (by go_grown) _) hg3)); have HXL : Hid (x.length = 1) := (by show _ = _; simp at hx; rcases hx with rfl | rfl | rfl | rfl | rfl | rfl | rfl <;> rfl); obtain ⟨px, hpx⟩ : ∃ p, p = bT x := ⟨_, rfl⟩; have HPX := Lib.hid hpx; have zpx : px.size ≤ 1 := (by rw [hpx, bT_size, HXL.out]; exact Nat.le_refl _); rw [← hpx]; have m1 : ¬ 9223372036854775807 < p1.size + px.size := (by omega); have m2 : ¬ 9223372036854775807 < p1.size + px.size + p2.size := (by omega); have m3 : ¬ 9223372036854775807 < (p1 ++ px).size + p2.size := (by rw [ByteArray.size_append]; omega); clear hs hg3 hx hpx))
    all_goals
      go_wp2
      go_ret
      exact ⟨t.take Y ++ x ++ t.drop Y, by rw [bT_app, bT_app, ← HP1.out, ← HP2.out, ← HPX.out]; rfl, by simp [HXL.out]; omega, S3.out, G3.out⟩
  · cases t with
    | nil =>
      have e0 : bt = ⟨#[]⟩ := by rw [HB.out]; rfl
      subst e0
      go_wp2
      go_ret
      exact ⟨[], rfl, by simp, S1.out.mono (by omega), G1.out⟩
    | cons c r =>
      have n1 : bt.toList.isEmpty = false := by rw [Lib.toList_data, HB.out]; simp [bT]
      obtain ⟨t, ht'⟩ : ∃ t, t = c :: r := ⟨_, rfl⟩
      rw [← ht'] at zt ht HB
      have n2 : 1 ≤ t.length := by rw [ht']; simp
      clear ht'
      have e1 : IntKind.i64.wrap (bt.size : Int) = (bt.size : Int) := IntWalk.i64_in _ (by omega)
      go_wp2_with fail
      refine (pick_any W _ g vb bs _ S1.out (by omega) _ (by omega)).mono ?_
      rintro e w2 ⟨y, ⟨y0, y1⟩, rfl, hs, hg2⟩
      obtain ⟨Y, rfl⟩ := Int.eq_ofNat_of_zero_le y0
      have hY : Y < t.length := by omega
      have S2 := Lib.hid hs
      have G2 := Lib.hid (grown_trans G1.out hg2)
      have i1 : (Y : Int) ≤ (bt.size : Int) := by omega
      have i2 : (Y : Int) + 1 ≤ (bt.size : Int) := by omega
      have e2 : IntKind.i64.wrap ((Y : Int) + 1) = (Y : Int) + 1 := IntWalk.i64_in _ (by omega)
      have n3 : ((Y : Int) + 1).toNat = Y + 1 := by omega
      have x1 := cut_lo HB.out Y
      have x2 := cut_hi HB.out (Y + 1)
      obtain ⟨p1, hp1⟩ : ∃ p, p = bT (t.take Y) := ⟨_, rfl⟩
      obtain ⟨p2, hp2⟩ : ∃ p, p = bT (t.drop (Y + 1)) := ⟨_, rfl⟩
      have zp1 : p1.size ≤ 1000000 := by rw [hp1, bT_size, List.length_take]; omega
      have zp2 : p2.size ≤ 1000000 := by rw [hp2, bT_size, List.length_drop]; omega
      have m1 : ¬ 9223372036854775807 < p1.size + p2.size := by omega
      rw [← hp1] at x1
      rw [← hp2] at x2
      have HP1 := Lib.hid hp1
      have HP2 := Lib.hid hp2
      clear hs hg2 S1 G1 y0 y1 hp1 hp2 e1
      go_wp2
      go_quiet (fail)
      go_wp2
      go_ret
      exact ⟨t.take Y ++ t.drop (Y + 1), by rw [bT_app, ← HP1.out, ← HP2.out]; rfl, by simp; omega, (S2.out.below (below_drewN (Below.refl _ _) _)).mono (by omega), grown_drewN G2.out _⟩
  · have q2 : ¬ q = 0 := by omega
    have q3 : ¬ q = 1 := by omega
    go_wp2
    go_ret
    exact ⟨t, by rw [HB.out]; rfl, by omega, S1.out.mono (by omega), G1.out⟩
set_option maxRecDepth 100000 in
set_option maxHeartbeats 4000000 in
theorem DrawReadBarrel_any (vb : Value) (bs : List Int) (W w : World) (hv : SlB W vb bs) (hb : Below W.heap.size W w) :
    Calls Tryz.prog 10 #[vb] w fun e w' => ∃ t : List UInt8, e = .returned (.string (bT t)) ∧ t.length ≤ 1000001 ∧ Below w.heap.size w w' := by
  have HF := Lib.hid (l00From_c vb bs w w (hv.below hb) (Below.refl _ _) w.heap.size rfl)
  clear hv hb
  go_enter Tryz.func10, Tryz.ntmps10
  go_wp2_with fail
  refine HF.out.mono ?_
  rintro e w1 ⟨rfl, hs, hb1⟩
  have S1 := Lib.hid hs
  have z1 := hs.lt
  clear hs hb1 HF
  go_wp2_with fail
  refine (l22Draw_any w w1 _ vb bs 0 S1.out (by omega)).mono ?_
  rintro e w2 ⟨v, st, bl, ps, rfl, ho, ⟨hok, _, _, _⟩, hs, hg2⟩
  obtain ⟨A, C, rfl⟩ := own_form ho
  obtain ⟨⟨s1, s2⟩, ⟨l1, l2⟩, h3, _⟩ := brB_iff.1 hok
  obtain ⟨S, rfl⟩ := Int.eq_ofNat_of_zero_le (show 0 ≤ st by omega)
  have HT := Lib.hid (l22Text_any _ ps S bl w2 (SlP.of_own ho) hok)
  have HTL : Hid ((txL bl ps S).length ≤ 1000000) := by
    have := tx_le bl ps h3 (by omega) (n := S) (by omega) (by omega)
    show _ ≤ _; omega
  have S2 := Lib.hid hs
  clear hok hs hg2 ho S1
  go_wp2_with fail
  refine HT.out.mono ?_
  rintro e w3 ⟨rfl, hb3⟩
  have S3 := Lib.hid (S2.out.below hb3)
  clear hb3 S2 HT
  go_wp2_with fail
  refine (l01Spoil_any w w3 _ vb bs _ S3.out (by omega) (txL bl ps S) HTL.out).mono ?_
  rintro e w4 ⟨t, rfl, ht, hs, _⟩
  have HO := Lib.hid hs.old
  clear hs S3
  go_wp2
  go_ret
  exact ⟨t, rfl, ht, HO.out⟩
end Go.Proofs.YtgaohmbgjjhdbaaGreatDoor
