/- Contracts of the laws' own helpers on slices of Pin: equality, marks; append of one Pin. -/
import Derived.Test.YtgaohmbgjjhdbaaPxB
import Derived.Test.YtgaohmbgjjhdbaaBx
import Derived.Test.YtgaohmbgjjhdbaaSiPin
import Derived.Handy
import Derived.Deep.DrawnRows
namespace Go.Proofs.Ytgaohmbgjjhdbaa
open Go.RowKit
attribute [local go_sem ↓] Go.wp_at_zero Go.wp_at_succ
attribute [local go_sem] cell?_grow frozen?_grow

set_option maxHeartbeats 4000000 in
theorem eqPinS_b (va vb : Value) (ps : List (Int × Int)) (w : World) (ha : SlP w va ps) (hb : SlP w vb ps) :
    Calls Try.prog 62 #[va, vb] w fun e w' => e = .returned (.bool true) ∧ Below w.heap.size w w' := by
  obtain ⟨A, c, rfl, hac, hac', HA⟩ := ha.open_
  obtain ⟨B, d, rfl, hbd, hbd', HB⟩ := hb.open_
  clear ha hb
  go_enter Try.func62, Try.ntmps62
  go_wp2_with fail
  go_loopw [5] (fun i wr => ∃ k : Nat, k ≤ ps.length ∧ i = .int .i64 k ∧ Below w.heap.size w wr) (fun i _ => ps.length - (intOf i).toNat)
  case atStart => exact ⟨0, Nat.zero_le _, rfl, Below.refl _ _⟩
  case round =>
    obtain ⟨k, hk, rfl, hB⟩ := hrel
    by_cases hlt : k < ps.length
    · obtain ⟨ba, oa, rfl, hba, hca⟩ := HA.out k hlt
      obtain ⟨bb, ob, rfl, hbb, hcb⟩ := HB.out k hlt
      have a0 : wr.cell? ⟨ba, oa + k * 2, none⟩ = _ := (hB.cell (p := ⟨ba, oa + k * 2, none⟩) hba).trans (hca k hlt).1
      have a1 : wr.cell? ⟨ba, oa + (k * 2 + 1), none⟩ = _ := (hB.cell (p := ⟨ba, oa + (k * 2 + 1), none⟩) hba).trans (hca k hlt).2
      have b0 : wr.cell? ⟨bb, ob + k * 2, none⟩ = _ := (hB.cell (p := ⟨bb, ob + k * 2, none⟩) hbb).trans (hcb k hlt).1
      have b1 : wr.cell? ⟨bb, ob + (k * 2 + 1), none⟩ = _ := (hB.cell (p := ⟨bb, ob + (k * 2 + 1), none⟩) hbb).trans (hcb k hlt).2
      have a1' : wr.cell? ⟨ba, oa + k * 2 + 1, none⟩ = some (.int .i64 (pi ps k).2) := a1
      have b1' : wr.cell? ⟨bb, ob + k * 2 + 1, none⟩ = some (.int .i64 (pi ps k).2) := b1
      have za : ba < wr.heap.size := Nat.lt_of_lt_of_le hba hB.size
      have zb : bb < wr.heap.size := Nat.lt_of_lt_of_le hbb hB.size
      have i1 : (k : Int) < (ps.length : Int) := by omega
      have i2 : (0 : Int) ≤ (k : Int) := by omega
      have i3 : (ps.length : Int) ≤ (c : Int) := by omega
      have i4 : (ps.length : Int) ≤ (d : Int) := by omega
      clear hca hcb HA HB
      go_wp2
      refine wp_region_grow (by kernel_rfl) (by kernel_rfl) ?_
      repeat (go_big_quiet_step ((go_at_call 86; exact grow_of (eqPin_true _ _ _))))
      refine wpQuiet_nil ?_
      intro w6 hb6
      have B6 := hB.trans (hb6.mono hB.size)
      clear hb6 a0 a1 b0 b1 a1' b1' za zb
      go_wp2
      go_roundw
      case rel => exact ⟨k + 1, by omega, by go_num, B6⟩
      case measure => simp [intOf]; omega
    · go_wp2
      go_ret
      exact ⟨rfl, hB⟩

theorem pin_info : (Try.prog.info? 62).map (fun i => (i.zero, i.size, i.bytes)) = some (some (.agg #[.int .i64 0, .int .i64 0]), 2, 16) := by kernel_rfl

set_option maxHeartbeats 2000000 in
theorem markPinS_any (va : Value) (k : Int) (ps : List (Int × Int)) (base : Nat) (w : World) (ha : w.ownsRow base 62 2 va ps.length (P64 ps)) (h0 : 0 ≤ k) (hk : k ≤ 4294967296) (hm : ps.length ≤ 4294967296) :
    Calls Try.prog 63 #[va, .int .i64 k] w fun e w' => e = .returned (.int .i64 (k + 2 * ps.length)) ∧ w'.ownsRow base 62 2 va (runP k ps.length).length (P64 (runP k ps.length)) ∧ w.grownBy w' va.ownBlock := by
  have hsl := SlP.of_own ha
  obtain ⟨A, c, rfl, hac, hac', HA⟩ := hsl.open_
  by_cases hn : ps.length = 0
  · have hx : ps = [] := List.eq_nil_of_length_eq_zero hn
    subst hx
    clear hn
    go_enter Try.func63, Try.ntmps63
    go_wp2
    go_loop [1, 5] (fun q i => i = .int .i64 0 ∧ q = .int .i64 k) (fun _ i => 0)
    case atStart => exact ⟨rfl, rfl⟩
    case round =>
      obtain ⟨rfl, rfl⟩ := hrel
      go_wp2
      go_ret
      exact ⟨by go_num, ha, World.grownBy.refl _ _⟩
  · obtain ⟨g, cap, hv, _⟩ := ha.form (by omega)
    injection hv with hA hn' hc'
    subst hA
    subst hc'
    clear hn hsl HA
    go_enter Try.func63, Try.ntmps63
    go_wp2
    go_loopw [1, 5] (fun q i wr => ∃ j : Nat, j ≤ ps.length ∧ i = .int .i64 j ∧ q = .int .i64 (k + 2 * j) ∧ wr.ownsRow base 62 2 (.slice (some ⟨g, 0, none⟩) ps.length c) ps.length (P64 (markP ps k j)) ∧ w.grownBy wr (some g)) (fun _ i _ => ps.length - (intOf i).toNat)
    case atStart => exact ⟨0, Nat.zero_le _, rfl, by go_num, ha, World.grownBy.refl _ _⟩
    case round =>
      obtain ⟨j, hj, rfl, rfl, hown, hg⟩ := hrel
      by_cases hlt : j < ps.length
      · have hget := P64_get (ps := markP ps k j) (k := j) (by rw [markP_length hj]; exact hlt)
        have c0 := hown.cellAt (j * 2) (by omega)
        rw [hget.1] at c0
        have c1 := hown.cellAt (j * 2 + 1) (by omega)
        rw [hget.2] at c1
        have f0 := hown.frozenAt (j * 2)
        have f1 := hown.frozenAt (j * 2 + 1)
        obtain ⟨hs1, hs2⟩ := hown.stored (j * 2) (.int .i64 (k + 2 * (j : Int)))
        obtain ⟨hs3, hs4⟩ := hs1.stored (j * 2 + 1) (.int .i64 (k + 2 * (j : Int) + 1))
        rw [markP_set hlt] at hs3
        have HS := Lib.hid hs3
        have HG := Lib.hid (grown_trans (grown_trans hg hs2) hs4)
        clear hs1 hs2 hs3 hs4 hg hown hget
        go_wp2
        go_roundw
        case rel => exact ⟨j + 1, by omega, by go_num, by go_num, HS.out, HG.out⟩
        case measure => simp [intOf]; omega
      · have : j = ps.length := by omega
        subst this
        rw [markP_all] at hown
        go_wp2
        go_ret
        exact ⟨rfl, by rw [runP_length]; exact hown, hg⟩

set_option maxHeartbeats 2000000 in
theorem heldPinS_any (va : Value) (k : Int) (m : Nat) (w : World) (ha : SlP w va (runP k m)) (h0 : 0 ≤ k) (hk : k ≤ 4294967296) (hm : m ≤ 4294967296) :
    Calls Try.prog 64 #[va, .int .i64 k] w fun e w' => e = .returned (.int .i64 (k + 2 * m)) ∧ w = w' := by
  obtain ⟨A, c, rfl, hac, hac', HA⟩ := ha.open_
  rw [runP_length] at hac HA ⊢
  go_enter Try.func64, Try.ntmps64
  go_wp2
  go_loop [1, 5] (fun q i => ∃ j : Nat, j ≤ m ∧ i = .int .i64 j ∧ q = .int .i64 (k + 2 * j)) (fun _ i => m - (intOf i).toNat)
  case atStart => exact ⟨0, Nat.zero_le _, rfl, by go_num⟩
  case round =>
    obtain ⟨j, hj, rfl, rfl⟩ := hrel
    by_cases hlt : j < m
    · obtain ⟨ba, oa, rfl, hba, hca⟩ := HA.out j hlt
      have ca := (hca j hlt).1
      have cb : w.cell? ⟨ba, oa + j * 2 + 1, none⟩ = _ := (hca j hlt).2
      rw [pi_runP hlt] at ca cb
      have cc : w.cell? ⟨ba, oa + (j * 2 + 1), none⟩ = _ := cb
      clear hca HA
      go_wp2
      go_round
      case rel => exact ⟨j + 1, by omega, by go_num, by go_num⟩
      case measure => simp [intOf]; omega
    · have : j = m := by omega
      subst this
      go_wp2
      go_ret
      exact ⟨rfl, rfl⟩

section
variable {w : World} {ops : Array Oper} {rest : List Oper} {o : Oper} {a : Act} {Q : Exit → Act → World → Prop}
/-- 'ps = append(ps, Pin{x, y})' on what the call owns; what it leaves alone. -/
theorem wpList_appPin (hgd : o.guard = none) (s x : Operand) (ho : o.op = .call { callee := .builtin .append, args := #[s, x], argTypes := #[31, 31] })
    (base : Nat) (v : Value) (ps : List (Int × Int)) (hs : a.eval s = v) (hown : w.ownsRow base 62 2 v ps.length (P64 ps)) (m n : Int)
    (g : Nat) (hx : a.eval x = .slice (some ⟨g, 0, none⟩) 1 1) (hg : w.heap.size = g) (hn : ps.length ≤ 134217728) (hbase : base ≤ w.heap.size)
    (h : ∀ v' w', w'.ownsRow base 62 2 v' (ps ++ [(m, n)]).length (P64 (ps ++ [(m, n)])) → Below base w w' → w.grownBy w' v.ownBlock → wpList Try.prog ops Q rest (a.put o.dst v') w') :
    wpList Try.prog ops Q (o :: rest) a (w.alloc (.cells #[.int .i64 m, .int .i64 n] 62)) := by
  subst hg
  obtain ⟨i0, hi, hz0, hz1, hz2⟩ := info_parts pin_info
  exact wpList_app hgd s x _ ho Try.underlying31 hi hz0 hz1 hz2 rfl (by decide) (by decide) base v ps.length (P64 ps) hs hown [.int .i64 m, .int .i64 n] rfl (by intro u hu; simp at hu; rcases hu with rfl | rfl <;> rfl) hx hn hbase
    (fun v' w' h1 h2 h3 _ => h v' w' (by rw [P64_append]; simpa [P64] using h1) h2 h3)
end
end Go.Proofs.Ytgaohmbgjjhdbaa
