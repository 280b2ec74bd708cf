/- Chimes: numbers said and read in the reference (l01Dec at every number, l01Number). -/
import Derived.Test.YtgaohmbgjjhdbaaGreatDoorTtH
import Derived.Test.YtgaohmbgjjhdbaaGreatDoorTtI
import Derived.Maps.AppendAt
namespace Go.Proofs.YtgaohmbgjjhdbaaGreatDoor
open Go.RowKit
attribute [local go_sem ↓] Go.wp_at_zero Go.wp_at_succ

def U8 (L : List UInt8) : List Value := L.map fun b => .int .u8 (b.toNat : Int)
theorem U8_length (L : List UInt8) : (U8 L).length = L.length := by simp [U8]
theorem U8_app (L M : List UInt8) : U8 L ++ U8 M = U8 (L ++ M) := by simp [U8]
theorem u8_info : (Tryz.prog.info? 5).map (fun i => (i.zero, i.size, i.bytes)) = some (some (.int .u8 0), 1, 1) := by kernel_rfl
section
variable {w : World} {ops : Array Oper} {rest : List Oper} {o : Oper} {a : Act} {Q : Exit → Act → World → Prop}
/-- Bytes are put behind bytes that the call owns. -/
theorem wpList_appU (hgd : o.guard = none) (s x : Operand) (ho : o.op = .call { callee := .builtin .append, args := #[s, x], argTypes := #[22, 22] })
    (base : Nat) (v : Value) (L : List UInt8) (hs : a.eval s = v) (hown : w.ownsRow base 5 1 v L.length (U8 L)) (g c : Nat) (D : List UInt8)
    (hx : a.eval x = .slice (some ⟨g, 0, none⟩) D.length c) (hD : w.ownsRow base 5 1 (.slice (some ⟨g, 0, none⟩) D.length c) D.length (U8 D)) (hn : L.length + D.length ≤ 134217728) (hbase : base ≤ w.heap.size)
    (h : ∀ v' w', w'.ownsRow base 5 1 v' (L ++ D).length (U8 (L ++ D)) → w.grownBy w' v.ownBlock → wpList Tryz.prog ops Q rest (a.put o.dst v') w') :
    wpList Tryz.prog ops Q (o :: rest) a w := by
  obtain ⟨i0, hi, hz0, hz1, hz2⟩ := info_parts u8_info
  exact wpList_append_own_at (P := Tryz.prog) w hgd s x _ ho base _ i0 _ 1 1 Tryz.underlying22 hi hz0 hz1 hz2 rfl (by decide) v L.length (U8 L) hs hown ⟨g, 0, none⟩ D.length c (U8 D) hx (by rw [U8_length]; omega) (hD.cells (g := g) rfl)
    (by intro u hu; obtain ⟨b, _, rfl⟩ := List.mem_map.1 hu; rfl) (by simp only [maxLen]; omega) (by omega) hbase
    (fun v' w' h1 h2 _ _ => h v' w' (by rw [List.length_append, ← U8_app]; exact h1) h2)
end
theorem conv_bytes (w : World) (base g c : Nat) (l : List UInt8) (h : w.ownsRow base 5 1 (.slice (some ⟨g, 0, none⟩) l.length c) l.length (U8 l)) :
    (convert 22 9 (.slice (some ⟨g, 0, none⟩) l.length c)).run Tryz.prog w = .ok (.string (bT l)) w :=
  run_convert_bytes_back (P := Tryz.prog) w 22 9 5 ⟨g, 0, none⟩ c l Tryz.underlying22 Tryz.underlying5 Tryz.underlying9 (fun j hj => by
    have := h.cells (g := g) rfl j (.int .u8 ((l[j]).toNat : Int)) (by rw [U8, List.getElem?_map, List.getElem?_eq_getElem hj]; rfl)
    simpa using this)
theorem dg9 {k : Nat} (h : k ≤ 9) : ∃ b : UInt8, IntKind.u8.wrap (48 + (k : Int)) = 48 + (k : Int) ∧ (b.toNat : Int) = 48 + (k : Int) := by
  refine ⟨UInt8.ofNat (48 + k), ?_, ?_⟩ <;>
  rcases (show k = 0 ∨ k = 1 ∨ k = 2 ∨ k = 3 ∨ k = 4 ∨ k = 5 ∨ k = 6 ∨ k = 7 ∨ k = 8 ∨ k = 9 by omega) with rfl | rfl | rfl | rfl | rfl | rfl | rfl | rfl | rfl | rfl <;> decide +kernel
theorem own_b (w : World) (base : Nat) (hb : base ≤ w.heap.size) (b : UInt8) (k : Nat) (h : (b.toNat : Int) = 48 + (k : Int)) :
    (w.alloc (.cells #[.int .u8 (48 + (k : Int))] 5)).ownsRow base 5 1 (.slice (some ⟨w.heap.size, 0, none⟩) 1 1) [b].length (U8 [b]) := by
  have := World.ownsRow_lit (base := base) (e := 5) (size := 1) w #[.int .u8 (48 + (k : Int))] 1 hb (by decide) rfl
  rw [← h] at this ⊢
  exact this
set_option maxRecDepth 100000 in
set_option maxHeartbeats 4000000 in
theorem l01DecZ_any (n : Int) (h0 : -9223372036854775808 ≤ n) (h1 : n ≤ 9223372036854775807) (w : World) :
    Calls Tryz.prog 60 #[.int .i64 n] w fun e w' => ∃ t : List UInt8, e = .returned (.string (bT t)) ∧ t.length ≤ 100 ∧ Below w.heap.size w w' := by
  go_enter Tryz.func60, Tryz.ntmps60
  have HO0 := Lib.hid (World.ownsRow_lit (base := w.heap.size) (e := 5) (size := 1) w #[] 0 (Nat.le_refl _) (by decide) rfl)
  go_wp2_with fail
  go_loopw [3, 4, 5] (fun a3 a4 _ wr => ∃ (v : Int) (L : List UInt8) (g c : Nat), a4 = .int .i64 v ∧ ((-9223372036854775808 ≤ v ∧ v ≤ 9223372036854775807) ∧ v.natAbs < 10 ^ (20 - L.length) ∧ L.length ≤ 20) ∧ a3 = .slice (some ⟨g, 0, none⟩) L.length c ∧ wr.ownsRow w.heap.size 5 1 (.slice (some ⟨g, 0, none⟩) L.length c) L.length (U8 L) ∧ Hid (Below w.heap.size w wr)) (fun _ a _ _ => (intOf a).natAbs)
  case atStart => exact ⟨n, [], w.heap.size, 0, rfl, ⟨⟨h0, h1⟩, by simp; omega, by simp⟩, rfl, HO0.out, Lib.hid (by go_grown)⟩
  case round =>
    obtain ⟨v, L, g, c, rfl, ⟨⟨v0, v1⟩, hv, hl⟩, rfl, hown, hB⟩ := hrel
    obtain ⟨wi, rfl⟩ : ∃ y : World, y = wr := ⟨_, rfl⟩
    have HO := Lib.hid hown
    have zw := hB.out.size
    by_cases hz : v = 0
    · subst hz
      by_cases hL : L.length = 0
      · clear hown hv
        obtain rfl : L = [] := List.length_eq_zero_iff.1 hL
        go_wp2_with fail
        go_ret
        exact ⟨[48], rfl, by simp, hB.out⟩
      · have kc := conv_bytes wi w.heap.size g c L hown
        have n0 : ¬ (L.length : Int) = 0 := by omega
        have zb := bT_size L
        obtain ⟨b, hb⟩ : ∃ b, b = bT L := ⟨_, rfl⟩
        rw [← hb] at kc zb
        have n1 : ¬ 9223372036854775807 < 1 + b.size := by omega
        have HBB := Lib.hid hb
        clear hown hv hL hb
        by_cases hneg : n < 0
        · go_wp2_with fail
          go_ret
          exact ⟨45 :: L, by rw [show (45 :: L : List UInt8) = [45] ++ L from rfl, bT_app, ← HBB.out]; rfl, by simp; omega, hB.out⟩
        · go_wp2_with fail
          go_ret
          exact ⟨L, by rw [HBB.out]; rfl, by omega, hB.out⟩
    · have n0 : (v != 0) = true := by simpa using hz
      have hr : (v.tmod 10).natAbs = v.natAbs % 10 := Int.natAbs_tmod v 10
      have hq : (v.tdiv 10).natAbs = v.natAbs / 10 := Int.natAbs_tdiv v 10
      obtain ⟨r, m1⟩ : ∃ r, v.tmod 10 = r := ⟨_, rfl⟩
      obtain ⟨q, m2⟩ : ∃ q, v.tdiv 10 = q := ⟨_, rfl⟩
      rw [m1] at hr
      rw [m2] at hq
      have hl2 : L.length ≤ 19 := by
        rcases Nat.lt_or_ge L.length 20 with h | h
        · omega
        · rw [show 20 - L.length = 0 by omega] at hv
          omega
      have hqv : q.natAbs < 10 ^ (20 - (L.length + 1)) := by
        rw [show 20 - L.length = (20 - (L.length + 1)) + 1 by omega, Nat.pow_succ] at hv
        omega
      have hqm : q.natAbs < v.natAbs := by omega
      obtain ⟨k, hk⟩ : ∃ k : Nat, k = r.natAbs := ⟨_, rfl⟩
      have k9 : k ≤ 9 := by omega
      obtain ⟨b, e1, e2⟩ := dg9 k9
      have HOB := Lib.hid (own_b wi w.heap.size zw b k e2)
      have HOL := Lib.hid (HO.out.alloc (.cells #[.int .u8 (48 + (k : Int))] 5))
      have r9 : -9 ≤ r ∧ r ≤ 9 := by omega
      obtain ⟨r1, r2⟩ := r9
      have q9 : -9223372036854775808 ≤ q ∧ q ≤ 9223372036854775807 := by omega
      obtain ⟨q1, q2⟩ := q9
      clear hown hv hr hq hz e2
      by_cases hneg : r < 0
      · have hk2 : -r = (k : Int) := by omega
        clear hk
        go_wp2_with (at_builtin; refine wpList_appU rfl _ _ rfl w.heap.size (.slice (some ⟨wi.heap.size, 0, none⟩) 1 1) [b] rfl HOB.out g c L rfl HOL.out (by simp; omega) (by simp; omega) ?_; intro v6 w6 ho6 hg6; obtain ⟨g6, c6, rfl, _, _⟩ := ho6.form (by simp); have HO6 := Lib.hid ho6; have HB6 := Lib.hid (hB.out.trans (below_of_grown (B := w.heap.size) (grown_trans (World.grownBy_alloc wi _ _) hg6) zw (by intro j hj; simp [Value.ownBlock] at hj; omega))); clear ho6 hg6)
        exact ⟨⟨q, b :: L, g6, c6, rfl, ⟨⟨q1, q2⟩, hqv, by simp; omega⟩, by simp, HO6.out, HB6⟩, hqm⟩
      · have hk2 : r = (k : Int) := by omega
        clear hk
        subst hk2
        go_wp2_with (at_builtin; refine wpList_appU rfl _ _ rfl w.heap.size (.slice (some ⟨wi.heap.size, 0, none⟩) 1 1) [b] rfl HOB.out g c L rfl HOL.out (by simp; omega) (by simp; omega) ?_; intro v6 w6 ho6 hg6; obtain ⟨g6, c6, rfl, _, _⟩ := ho6.form (by simp); have HO6 := Lib.hid ho6; have HB6 := Lib.hid (hB.out.trans (below_of_grown (B := w.heap.size) (grown_trans (World.grownBy_alloc wi _ _) hg6) zw (by intro j hj; simp [Value.ownBlock] at hj; omega))); clear ho6 hg6)
        exact ⟨⟨q, b :: L, g6, c6, rfl, ⟨⟨q1, q2⟩, hqv, by simp; omega⟩, by simp, HO6.out, HB6⟩, hqm⟩
end Go.Proofs.YtgaohmbgjjhdbaaGreatDoor
