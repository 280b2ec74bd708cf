/- Dice: the laws' own source of numbers (f6roll, below), in the form 'some number in its bounds comes back'. -/
import Derived.Test.YtfddibdncniekaaDoorDr
import Derived.Deep.DeepCutAuto
namespace Go.Proofs.YtfddibdncniekaaDoor
open Go.RowKit

/-- Block g is a die over the bytes v, made in a call that began in W. -/
def Dice (W w : World) (g : Nat) (v : Value) (bs : List Int) : Prop :=
  SlB W v bs ∧ W.heap.size ≤ g ∧ Below W.heap.size W w ∧ ∃ i h : Int, (0 ≤ i ∧ i ≤ bs.length) ∧ (0 ≤ h ∧ h ≤ 18446744073709551615) ∧ Blk w g 85 #[v, .int .i64 i, .int .u64 h]
section
variable {W w w' : World} {g : Nat} {v : Value} {bs : List Int}
theorem Dice.lt (h : Dice W w g v bs) : g < w.heap.size := by
  obtain ⟨_, _, _, _, _, _, _, hb⟩ := h
  exact hb.lt
theorem Dice.old (h : Dice W w g v bs) : Below W.heap.size W w := h.2.2.1
theorem Dice.far (h : Dice W w g v bs) {row : Option Nat} (hg : w.grownBy w' row) (hr : ∀ k, row = some k → W.heap.size ≤ k) (hn : some g ≠ row) : Dice W w' g v bs := by
  obtain ⟨h1, h2, h3, i, x, hi, hx, hb⟩ := h
  exact ⟨h1, h2, h3.grown hg h3.size hr, i, x, hi, hx, hb.grown hg hn⟩
theorem Dice.below (h : Dice W w g v bs) (hb : Below w.heap.size w w') : Dice W w' g v bs := h.far (row := none) (grown_of_below hb none) (fun _ e => by cases e) (by simp)
theorem Dice.set_ (h : Dice W w g v bs) {p : Addr} (hp : W.heap.size ≤ p.block) (hn : g ≠ p.block) (u : Value) : Dice W (w.setCell p u) g v bs := by
  obtain ⟨h1, h2, h3, i, x, hi, hx, hb⟩ := h
  exact ⟨h1, h2, h3.setCell hp u, i, x, hi, hx, hb.far hn u⟩
end
theorem low24 (z : Int) : 0 ≤ wrap64 (bits BinOp.and IntKind.u64 (IntKind.u64.wrap z / 8589934592) 16777215) ∧ wrap64 (bits BinOp.and IntKind.u64 (IntKind.u64.wrap z / 8589934592) 16777215) ≤ 16777215 := by
  obtain ⟨h0, h1⟩ := u64_in' z
  have h2 : 0 ≤ IntKind.u64.wrap z / 8589934592 := Int.ediv_nonneg h0 (by decide)
  have h3 : IntKind.u64.wrap z / 8589934592 < 18446744073709551616 := by omega
  rw [u64_and _ _ h2 h3 (by decide) (by decide)]
  have h4 : (IntKind.u64.wrap z / 8589934592).toNat &&& (16777215 : Int).toNat ≤ 16777215 := Nat.and_le_right
  rw [IntWalk.wrap64_in _ (by omega)]
  omega

set_option maxHeartbeats 4000000 in
theorem f6roll_any (v : Value) (bs : List Int) (W w : World) (hv : SlB W v bs) (hb : Below W.heap.size W w) (g : Nat) (hg : w.heap.size = g) (sd : Int) (hs0 : 0 ≤ sd) (hs1 : sd ≤ 100000) :
    Calls Tryd.prog 34 #[v, .int .u64 sd] w fun e w' => e = .returned (.pointer (some ⟨g, 0, none⟩)) ∧ Dice W w' g v bs ∧ Below w.heap.size w w' := by
  subst hg
  have HV := Lib.hid hv
  have HS := Lib.hid (fun w' (hh : Below w.heap.size w w') => hb.trans (hh.mono hb.size))
  have hz := hb.size
  obtain ⟨A, c, rfl, hac, hac', HA⟩ := (hv.below hb).open_
  have hvw := Lib.hid hb
  clear hv hb
  go_enter Tryd.func34, Tryd.ntmps34
  go_wp2
  go_loopw [6] (fun i wr => ∃ (k : Nat) (h : Int), k ≤ bs.length ∧ i = .int .i64 k ∧ (0 ≤ h ∧ h ≤ 18446744073709551615) ∧ Blk wr w.heap.size 85 #[.slice A bs.length c, .int .i64 0, .int .u64 h] ∧ Below w.heap.size w wr) (fun i _ => bs.length - (intOf i).toNat)
  case atStart =>
    refine ⟨0, _, Nat.zero_le _, rfl, ?_, Blk.new _ _ _, by go_grown⟩
    first | exact u64_in' _ | omega
  case round =>
    obtain ⟨k, h, hk, rfl, ⟨h0, h1⟩, hblk, hB⟩ := hrel
    by_cases hlt : k < bs.length
    · obtain ⟨ba, oa, rfl, hba, hca⟩ := HA.out k hlt
      have a0 : wr.cell? ⟨ba, oa + k, none⟩ = _ := (hB.cell (p := ⟨ba, oa + k, none⟩) hba).trans (hca k hlt)
      obtain ⟨x0, x1⟩ := HV.out.ix_in hlt
      have zb : ba < wr.heap.size := Nat.lt_of_lt_of_le hba hB.size
      have i1 : (k : Int) < (bs.length : Int) := by omega
      have i3 : (bs.length : Int) ≤ (c : Int) := by omega
      have q2 := hblk.cell 2 rfl
      have f2 := hblk.frozen 2
      have z0 := hblk.lt
      have HK := Lib.hid hblk
      have e2 : IntKind.u64.wrap (ix bs k) = ix bs k := IntWalk.u64_in _ (by omega)
      clear hca HA hblk
      go_wp2_with fail
      go_region
      all_goals
        go_wp2
        go_roundw
        case rel => exact ⟨k + 1, _, by omega, by go_num, u64_in' _, HK.out.set_ 2 _, by go_grown⟩
        case measure => simp [intOf]; omega
    · have HK := Lib.hid hblk
      clear HA hblk
      go_wp2
      go_ret
      exact ⟨rfl, ⟨HV.out, hz, HS.out _ hB, 0, h, ⟨Int.le_refl 0, by omega⟩, ⟨h0, h1⟩, HK.out⟩, hB⟩
theorem grown_self {a b : World} {g : Nat} (h : a.grownBy b (some g)) (i : Nat) (u : Value) : a.grownBy (b.setCell ⟨g, i, none⟩ u) (some g) :=
  ⟨h.os, h.tape, h.output, by simpa using h.size, fun j hj hn => (Below.heap_setCell b _ u j (fun e => hn (by rw [e]))).trans (h.block j hj hn)⟩
set_option maxHeartbeats 4000000 in
theorem below_any (W w : World) (g : Nat) (v : Value) (bs : List Int) (h : Dice W w g v bs) (n : Int) (hn : 1 ≤ n) (hn2 : n ≤ 9223372036854775807) :
    Calls Tryd.prog 35 #[.pointer (some ⟨g, 0, none⟩), .int .i64 n] w fun e w' => ∃ x : Int, (0 ≤ x ∧ x < n) ∧ e = .returned (.int .i64 x) ∧ Dice W w' g v bs ∧ w.grownBy w' (some g) := by
  obtain ⟨hs, hg, hB, i, sd, ⟨ha0, ha1⟩, ⟨hs0, hs1⟩, hblk⟩ := h
  have HS := Lib.hid hs
  obtain ⟨A, c, rfl, hac, hac', HA⟩ := hs.open_
  have hx : ∀ y : Int, 0 ≤ y → 0 ≤ y % n ∧ y % n < n := fun y _ => ⟨Int.emod_nonneg _ (by omega), Int.emod_lt_of_pos _ (by omega)⟩
  have HX := Lib.hid hx
  have q0 := hblk.cell 0 rfl
  have q1 := hblk.cell 1 rfl
  have q2 := hblk.cell 2 rfl
  have f0 := hblk.frozen 0
  have f1 := hblk.frozen 1
  have f2 := hblk.frozen 2
  have z0 := hblk.lt
  have HK := Lib.hid hblk
  clear hs hblk hx
  obtain ⟨k, rfl⟩ := Int.eq_ofNat_of_zero_le ha0
  have hB0 := Lib.hid hB
  go_enter Tryd.func35, Tryd.ntmps35
  go_upto_region 2 with (fail)
  go_cut [5] (fun a5 wr => ∃ (y z : Int), .int .i64 y = a5 ∧ (0 ≤ y ∧ y ≤ 16777215) ∧ Blk wr g 85 #[.slice A bs.length c, .int .i64 k, .int .u64 (IntKind.u64.wrap z)] ∧ Below W.heap.size W wr ∧ w.grownBy wr (some g))
  case first =>
    go_wp2_with fail
    go_meet
    refine ⟨_, _, rfl, low24 _, HK.out.set_ 2 _, hB0.out.setCell (by simpa using hg) _, ?_⟩
    exact ⟨rfl, rfl, rfl, by simp, fun i _ hn => Below.heap_setCell _ _ _ i (fun e => hn (by rw [e]))⟩
  case rest =>
    obtain ⟨w3, rfl⟩ : ∃ x : World, x = wc := ⟨_, rfl⟩
    obtain ⟨y, z, rfl, ⟨y0, y1⟩, hblk, hB3, hG3⟩ := hcut
    clear q0 q1 q2 f0 f1 f2 z0 HK
    have q0 := hblk.cell 0 rfl
    have q1 := hblk.cell 1 rfl
    have q2 := hblk.cell 2 rfl
    have f1 := hblk.frozen 1
    have z0 := hblk.lt
    have HK := Lib.hid hblk
    have HG := Lib.hid hG3
    have HB3 := Lib.hid hB3
    clear hblk hG3
    by_cases hlt : k < bs.length
    · obtain ⟨ba, oa, rfl, hba, hca⟩ := HA.out k hlt
      have a0 : w3.cell? ⟨ba, oa + k, none⟩ = _ := (hB3.cell (p := ⟨ba, oa + k, none⟩) hba).trans (hca k hlt)
      obtain ⟨x0, x1⟩ := HS.out.ix_in hlt
      have zb : ba < w3.heap.size := Nat.lt_of_lt_of_le hba hB3.size
      have i1 : (k : Int) < (bs.length : Int) := by omega
      have i3 : (bs.length : Int) ≤ (c : Int) := by omega
      have e1 : IntKind.i64.wrap ((k : Int) + 1) = (k : Int) + 1 := IntWalk.i64_in _ (by omega)
      have e2 : IntKind.i64.wrap (ix bs k) = ix bs k := IntWalk.i64_in _ (by omega)
      obtain ⟨r0, r1⟩ := HX.out (y + ix bs k) (by omega)
      clear hca HA hB3
      go_wp2
      go_quiet (fail)
      go_wp2
      go_quiet (fail)
      go_wp2
      go_ret
      refine ⟨_, ⟨r0, r1⟩, rfl, ⟨HS.out, hg, ?_, (k : Int) + 1, IntKind.u64.wrap z, ⟨by omega, by omega⟩, u64_in' _, ?_⟩, ?_⟩
      · exact Below.setCell (below_drewN HB3.out _) (show W.heap.size ≤ g from hg) _
      · exact (HK.out.drewN _).set_ 1 _
      · exact grown_self (grown_drewN HG.out _) _ _
    · have i1 : ¬ (k : Int) < (bs.length : Int) := by omega
      obtain ⟨r0, r1⟩ := HX.out y (by omega)
      clear HA hB3
      go_wp2
      go_quiet (fail)
      go_wp2
      go_ret
      exact ⟨_, ⟨r0, r1⟩, rfl, ⟨HS.out, hg, below_drewN HB3.out _, (k : Int), IntKind.u64.wrap z, ⟨by omega, by omega⟩, u64_in' _, HK.out.drewN _⟩, grown_drewN HG.out _⟩
end Go.Proofs.YtfddibdncniekaaDoor
