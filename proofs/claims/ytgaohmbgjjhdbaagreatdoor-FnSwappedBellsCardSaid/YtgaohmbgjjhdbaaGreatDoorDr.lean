/- Draws: the source of choices (l00Src) and its methods, in the form 'some valid value comes back'. -/
import Derived.Test.YtgaohmbgjjhdbaaGreatDoorAid
import Derived.Test.YtgaohmbgjjhdbaaGreatDoorBx
import Derived.Laws.BitsAllLaws
import Derived.Laws.Shifts
import Derived.Deep.RegionHeld3
import Derived.Handy
namespace Go.Proofs.YtgaohmbgjjhdbaaGreatDoor
open Go.RowKit

/-- The cells of some bytes. -/
def B8 (bs : List Int) : List Value := bs.map (Value.int .u8)
theorem B8_length (bs : List Int) : (B8 bs).length = bs.length := by simp [B8]
theorem B8_get {bs : List Int} {k : Nat} (h : k < bs.length) : (B8 bs)[k]? = some (.int .u8 (ix bs k)) := by simp [B8, ix_eq h, List.getElem?_eq_getElem h]
/-- A slice's value that reads as the bytes bs. -/
def SlB (w : World) (v : Value) (bs : List Int) : Prop := SlC w v bs.length (B8 bs) ∧ ∀ b ∈ bs, 0 ≤ b ∧ b ≤ 255
theorem SlB.below {w w' : World} {v : Value} {bs : List Int} (h : SlB w v bs) (hb : Below w.heap.size w w') : SlB w' v bs := ⟨SlC.below h.1 hb, h.2⟩
theorem SlB.open_ {w : World} {v : Value} {bs : List Int} (h : SlB w v bs) :
    ∃ A c, v = .slice A bs.length c ∧ bs.length ≤ c ∧ c ≤ 9223372036854775807 ∧ Hid (∀ k, k < bs.length → ∃ b o, A = some ⟨b, o, none⟩ ∧ b < w.heap.size ∧ (∀ j, j < bs.length → w.cell? ⟨b, o + j, none⟩ = some (.int .u8 (ix bs j)))) := by
  obtain ⟨A, c, rfl, h1, h2, h3⟩ := h.1
  refine ⟨A, c, rfl, h1, by simpa only [maxLen] using h2, fun k hk => ?_⟩
  obtain ⟨b, o, rfl, hb, hc⟩ := h3 (by rw [B8_length]; omega)
  exact ⟨b, o, rfl, hb, fun j hj => by rw [hc j (by rw [B8_length]; exact hj), B8_get hj]⟩
theorem SlB.ix_in {w : World} {v : Value} {bs : List Int} (h : SlB w v bs) {k : Nat} (hk : k < bs.length) : 0 ≤ ix bs k ∧ ix bs k ≤ 255 := h.2 _ (ix_mem hk)

/-- Block g is a source over the bytes v, made in a call that began in W; at most n choices have been drawn. -/
def Src (W w : World) (g : Nat) (v : Value) (bs : List Int) (n : Nat) : Prop :=
  SlB W v bs ∧ W.heap.size ≤ g ∧ Below W.heap.size W w ∧ ∃ at_ sd : Int, (0 ≤ at_ ∧ at_ ≤ n) ∧ (0 ≤ sd ∧ sd ≤ 18446744073709551615) ∧ Blk w g 68 #[v, .int .i64 at_, .int .u64 sd]
section
variable {W w w' : World} {g n m : Nat} {v : Value} {bs : List Int}
theorem Src.mono (h : Src W w g v bs n) (hm : n ≤ m) : Src W w g v bs m := by
  obtain ⟨h1, h2, h3, a, s, ha, hs, hb⟩ := h
  exact ⟨h1, h2, h3, a, s, by omega, hs, hb⟩
theorem Src.lt (h : Src W w g v bs n) : g < w.heap.size := by
  obtain ⟨_, _, _, _, _, _, _, hb⟩ := h
  exact hb.lt
theorem Src.old (h : Src W w g v bs n) : Below W.heap.size W w := h.2.2.1
theorem Src.far (h : Src W w g v bs n) {row : Option Nat} (hg : w.grownBy w' row) (hr : ∀ k, row = some k → W.heap.size ≤ k) (hn : some g ≠ row) : Src W w' g v bs n := by
  obtain ⟨h1, h2, h3, a, s, ha, hs, hb⟩ := h
  exact ⟨h1, h2, h3.grown hg h3.size hr, a, s, ha, hs, hb.grown hg hn⟩
theorem Src.below (h : Src W w g v bs n) (hb : Below w.heap.size w w') : Src W w' g v bs n := h.far (row := none) (grown_of_below hb none) (fun _ e => by cases e) (by simp)
end
theorem u64_in' (n : Int) : 0 ≤ IntKind.u64.wrap n ∧ IntKind.u64.wrap n ≤ 18446744073709551615 := by
  simp [IntKind.wrap, IntKind.bits, IntKind.signed]; omega

theorem low8 (z : Int) : 0 ≤ wrap64 (bits BinOp.and IntKind.u64 (IntKind.u64.wrap z / 1099511627776) 255) ∧ wrap64 (bits BinOp.and IntKind.u64 (IntKind.u64.wrap z / 1099511627776) 255) ≤ 255 := by
  obtain ⟨h0, h1⟩ := u64_in' z
  have h2 : 0 ≤ IntKind.u64.wrap z / 1099511627776 := Int.ediv_nonneg h0 (by decide)
  have h3 : IntKind.u64.wrap z / 1099511627776 < 18446744073709551616 := by omega
  rw [u64_and _ _ h2 h3 (by decide) (by decide)]
  have h4 : (IntKind.u64.wrap z / 1099511627776).toNat &&& (255 : Int).toNat ≤ 255 := Nat.and_le_right
  rw [IntWalk.wrap64_in _ (by omega)]
  omega
theorem src_step {W w : World} {g k n : Nat} {v : Value} {bs : List Int} {sd : Int} (hs : SlB W v bs) (hg : W.heap.size ≤ g) (hB : Below W.heap.size W w) (hk : k ≤ n) (hb : Blk w g 68 #[v, .int .i64 k, .int .u64 sd]) (a b : Nat) (y : Int) :
    Src W ((((w.drewN a).setCell ⟨g, 1, none⟩ (.int .i64 ((k : Int) + 1))).setCell ⟨g, 2, none⟩ (.int .u64 (IntKind.u64.wrap y))).drewN b) g v bs (n + 1)
    ∧ w.grownBy ((((w.drewN a).setCell ⟨g, 1, none⟩ (.int .i64 ((k : Int) + 1))).setCell ⟨g, 2, none⟩ (.int .u64 (IntKind.u64.wrap y))).drewN b) (some g) := by
  have hgr : w.grownBy ((((w.drewN a).setCell ⟨g, 1, none⟩ (.int .i64 ((k : Int) + 1))).setCell ⟨g, 2, none⟩ (.int .u64 (IntKind.u64.wrap y))).drewN b) (some g) := by
    refine grown_drewN ?_ _
    refine ⟨rfl, rfl, rfl, by simp, fun i hi hn => ?_⟩
    have hne : i ≠ g := fun e => hn (by rw [e])
    exact (Below.heap_setCell _ _ _ i hne).trans (Below.heap_setCell _ _ _ i hne)
  refine ⟨⟨hs, hg, hB.grown hgr hB.size (fun j hj => by cases hj; exact hg), (k : Int) + 1, IntKind.u64.wrap y, ⟨by omega, by omega⟩, u64_in' _, ?_⟩, hgr⟩
  have h1 := ((hb.drewN a).set_ 1 (.int .i64 ((k : Int) + 1))).set_ 2 (.int .u64 (IntKind.u64.wrap y))
  exact h1

set_option maxHeartbeats 4000000 in
theorem next_any (W w : World) (g : Nat) (v : Value) (bs : List Int) (n : Nat) (h : Src W w g v bs n) (hn : n ≤ 4611686018427387904) :
    Calls Tryz.prog 42 #[.pointer (some ⟨g, 0, none⟩)] w fun e w' => ∃ x : Int, (0 ≤ x ∧ x ≤ 255) ∧ e = .returned (.int .i64 x) ∧ Src W w' g v bs (n + 1) ∧ w.grownBy w' (some g) := by
  obtain ⟨hs, hg, hB, at_, sd, ⟨ha0, ha1⟩, ⟨hs0, hs1⟩, hblk⟩ := h
  have HS := Lib.hid hs
  obtain ⟨A, c, rfl, hac, hac', HA⟩ := hs.open_
  have q0 := hblk.cell 0 rfl
  have q1 := hblk.cell 1 rfl
  have q2 := hblk.cell 2 rfl
  have f0 := hblk.frozen 0
  have f1 := hblk.frozen 1
  have f2 := hblk.frozen 2
  have z0 := hblk.lt
  have HK := Lib.hid hblk
  have e1 : IntKind.i64.wrap (at_ + 1) = at_ + 1 := IntWalk.i64_in _ (by omega)
  clear hs hblk
  obtain ⟨k, rfl⟩ := Int.eq_ofNat_of_zero_le ha0
  by_cases hlt : k < bs.length
  · obtain ⟨ba, oa, rfl, hba, hca⟩ := HA.out k hlt
    have a0 : w.cell? ⟨ba, oa + k, none⟩ = _ := (hB.cell (p := ⟨ba, oa + k, none⟩) hba).trans (hca k hlt)
    obtain ⟨x0, x1⟩ := HS.out.ix_in hlt
    have zb : ba < w.heap.size := Nat.lt_of_lt_of_le hba hB.size
    have i1 : (k : Int) < (bs.length : Int) := by omega
    have i2 : (k : Int) + 1 ≤ (bs.length : Int) := by omega
    have i3 : (bs.length : Int) ≤ (c : Int) := by omega
    have e2 : IntKind.i64.wrap (ix bs k) = ix bs k := IntWalk.i64_in _ (by omega)
    clear hca HA
    go_enter Tryz.func42, Tryz.ntmps42
    go_wp2
    go_quiet (fail)
    go_wp2
    go_quiet (fail)
    go_wp2
    go_quiet (fail)
    go_wp2
    go_ret
    obtain ⟨s1, s2⟩ := src_step (n := n) HS.out hg hB (by omega) HK.out _ _ _
    exact ⟨_, ⟨x0, x1⟩, rfl, s1, s2⟩
  · have i1 : ¬ (k : Int) < (bs.length : Int) := by omega
    have i2 : ¬ (k : Int) + 1 ≤ (bs.length : Int) := by omega
    clear HA
    go_enter Tryz.func42, Tryz.ntmps42
    go_wp2
    go_quiet (fail)
    go_wp2
    go_quiet (fail)
    go_wp2
    go_ret
    obtain ⟨s1, s2⟩ := src_step (n := n) HS.out hg hB (by omega) HK.out _ _ _
    exact ⟨_, low8 _, rfl, s1, s2⟩

set_option maxHeartbeats 2000000 in
theorem pick_any (W w : World) (g : Nat) (v : Value) (bs : List Int) (k : Nat) (h : Src W w g v bs k) (hk : k ≤ 1000000000) (n : Int) (hn : n ≤ 9223372036854775807) :
    Calls Tryz.prog 18 #[.pointer (some ⟨g, 0, none⟩), .int .i64 n] w fun e w' => ∃ x : Int, (0 ≤ x ∧ (x < n ∨ x = 0)) ∧ e = .returned (.int .i64 x) ∧ Src W w' g v bs (k + 2) ∧ w.grownBy w' (some g) := by
  by_cases h1 : n ≤ 1
  · go_enter Tryz.func18, Tryz.ntmps18
    go_wp2
    go_ret
    exact ⟨0, ⟨Int.le_refl 0, Or.inr rfl⟩, rfl, h.mono (by omega), World.grownBy.refl _ _⟩
  · have hx : ∀ y : Int, 0 ≤ y → 0 ≤ y % n ∧ y % n < n := fun y _ => ⟨Int.emod_nonneg _ (by omega), Int.emod_lt_of_pos _ (by omega)⟩
    have HX := Lib.hid hx
    have HN := Lib.hid (next_any W w g v bs k h (by omega))
    clear h hx
    by_cases h2 : 200 < n
    · go_enter Tryz.func18, Tryz.ntmps18
      go_wp2_with fail
      refine HN.out.mono ?_
      rintro e w1 ⟨x, ⟨x0, x1⟩, rfl, hs, hg1⟩
      have HN2 := Lib.hid (next_any W w1 g v bs (k + 1) hs (by omega))
      have HG1 := Lib.hid hg1
      clear hs hg1 HN
      go_wp2_with fail
      refine HN2.out.mono ?_
      rintro e w2 ⟨y, ⟨y0, y1⟩, rfl, hs, hg2⟩
      have HG := Lib.hid (grown_trans HG1.out hg2)
      have HS := Lib.hid hs
      clear hs hg2 HN2
      obtain ⟨r0, r1⟩ := HX.out (x * 256 + y) (by omega)
      go_wp2
      go_ret
      exact ⟨_, ⟨r0, Or.inl r1⟩, rfl, HS.out, HG.out⟩
    · go_enter Tryz.func18, Tryz.ntmps18
      go_wp2_with fail
      refine HN.out.mono ?_
      rintro e w1 ⟨x, ⟨x0, x1⟩, rfl, hs, hg1⟩
      have HG := Lib.hid hg1
      have HS := Lib.hid (hs.mono (show k + 1 ≤ k + 2 by omega))
      clear hs hg1 HN
      obtain ⟨r0, r1⟩ := HX.out x (by omega)
      go_wp2
      go_ret
      exact ⟨_, ⟨r0, Or.inl r1⟩, rfl, HS.out, HG.out⟩
set_option maxHeartbeats 1000000 in
theorem one_any (W w : World) (g : Nat) (v : Value) (bs : List Int) (k : Nat) (h : Src W w g v bs k) (hk : k ≤ 1000000000) (n : Int) (hn : n ≤ 9223372036854775807) :
    Calls Tryz.prog 20 #[.pointer (some ⟨g, 0, none⟩), .int .i64 n] w fun e w' => ∃ x : Bool, e = .returned (.bool x) ∧ Src W w' g v bs (k + 2) ∧ w.grownBy w' (some g) := by
  have HP := Lib.hid (pick_any W w g v bs k h hk n hn)
  clear h
  go_enter Tryz.func20, Tryz.ntmps20
  go_wp2_with fail
  refine HP.out.mono ?_
  rintro e w1 ⟨x, hx, rfl, hs, hg⟩
  have HS := Lib.hid hs
  have HG := Lib.hid hg
  clear hs hg HP hx
  go_wp2
  go_ret
  exact ⟨_, rfl, HS.out, HG.out⟩
set_option maxHeartbeats 1000000 in
theorem among_any (W w : World) (g : Nat) (v : Value) (bs : List Int) (k : Nat) (h : Src W w g v bs k) (hk : k ≤ 1000000000) (b : Nat) (xs : List Int) (c : Nat) (hc : c ≤ 9223372036854775807) (hne : b ≠ g) (hxs : 0 < xs.length) (hl : xs.length ≤ c)
    (hcs : ∀ j, j < xs.length → w.cell? ⟨b, j, none⟩ = some (.int .i64 (ix xs j))) (hb : b < w.heap.size) :
    Calls Tryz.prog 41 #[.pointer (some ⟨g, 0, none⟩), .slice (some ⟨b, 0, none⟩) xs.length c] w fun e w' => ∃ x : Int, x ∈ xs ∧ e = .returned (.int .i64 x) ∧ Src W w' g v bs (k + 2) ∧ w.grownBy w' (some g) := by
  have HP := Lib.hid (pick_any W w g v bs k h hk xs.length (by omega))
  have HC := Lib.hid hcs
  clear h hcs
  go_enter Tryz.func41, Tryz.ntmps41
  go_wp2_with fail
  refine HP.out.mono ?_
  rintro e w1 ⟨x, ⟨x0, x1⟩, rfl, hs, hg⟩
  obtain ⟨j, rfl⟩ := Int.eq_ofNat_of_zero_le x0
  have hj : j < xs.length := by omega
  have a0 : w1.cell? ⟨b, j, none⟩ = some (.int .i64 (ix xs j)) := (hg.cell (HC.out j hj) (by simpa using hne))
  have hb1 : b < w1.heap.size := Nat.lt_of_lt_of_le hb hg.size
  have HM := Lib.hid (ix_mem hj)
  have HS := Lib.hid hs
  have HG := Lib.hid hg
  have i1 : (j : Int) < (xs.length : Int) := by omega
  clear hs hg HP HC
  go_wp2
  go_ret
  exact ⟨_, HM.out, rfl, HS.out, HG.out⟩
set_option maxHeartbeats 1000000 in
theorem l00From_any (v : Value) (bs : List Int) (w : World) (hv : SlB w v bs) :
    Calls Tryz.prog 16 #[v] w fun e w' => e = .returned (.pointer (some ⟨w.heap.size, 0, none⟩)) ∧ Src w w' w.heap.size v bs 0 := by
  have HV := Lib.hid hv
  obtain ⟨A, c, rfl, _, _, _⟩ := hv.open_
  clear hv
  go_enter Tryz.func16, Tryz.ntmps16
  go_wp2
  go_ret
  exact ⟨rfl, HV.out, Nat.le_refl _, (by go_grown), 0, 0, ⟨Int.le_refl 0, Int.le_refl 0⟩, ⟨Int.le_refl 0, by decide⟩, Blk.new _ _ _⟩
set_option maxHeartbeats 1000000 in
theorem f6big_any (v : Value) (bs : List Int) (w : World) (hv : SlB w v bs) (b : Bool) (hb : decide (4096 < bs.length) = b) :
    Calls Tryz.prog 4 #[v] w fun e w' => e = .returned (.bool b) ∧ w = w' := by
  obtain ⟨A, c, rfl, hac, hac', HA⟩ := hv.open_
  cases b with
  | false =>
    have h1 : ¬ (4096 : Int) < (bs.length : Int) := by have := of_decide_eq_false hb; omega
    go_enter Tryz.func4, Tryz.ntmps4
    go_wp2
    go_ret
    exact ⟨rfl, rfl⟩
  | true =>
    have h1 : (4096 : Int) < (bs.length : Int) := by have := of_decide_eq_true hb; omega
    go_enter Tryz.func4, Tryz.ntmps4
    go_wp2
    go_ret
    exact ⟨rfl, rfl⟩
end Go.Proofs.YtgaohmbgjjhdbaaGreatDoor
