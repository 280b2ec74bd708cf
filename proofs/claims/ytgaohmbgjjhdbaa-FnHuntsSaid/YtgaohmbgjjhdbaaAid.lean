/- Contracts of the small helpers on slices of numbers: eqInt64S, heldInt64S, markInt64S; the two tests on bounds. -/
import Derived.Test.YtgaohmbgjjhdbaaProg
import Derived.Test.YtgaohmbgjjhdbaaBase
import Derived.BigQuiet
import Derived.Deep.QuietTactic
namespace Go.Proofs.Ytgaohmbgjjhdbaa
open Go.RowKit

theorem int_info : (Try.prog.info? 2).map (fun i => (i.zero, i.size, i.bytes)) = some (some (.int .i64 0), 1, 8) := by kernel_rfl

section
variable {w : World} {ops : Array Oper} {rest : List Oper} {o : Oper} {a : Act} {Q : Exit → Act → World → Prop}
/-- 'xs = append(xs, x)' on numbers that the call owns. -/
theorem wpList_app1 (hgd : o.guard = none) (s x : Operand) (ho : o.op = .call { callee := .builtin .append, args := #[s, x], argTypes := #[60, 60] })
    (base : Nat) (v : Value) (xs : List Int) (hs : a.eval s = v) (hown : w.ownsRow base 2 1 v xs.length (I64 xs)) (n : Int)
    (hx : a.eval x = .slice (some ⟨w.heap.size, 0, none⟩) 1 1) (hn : xs.length ≤ 134217728) (hbase : base ≤ w.heap.size)
    (h : ∀ v' w', w'.ownsRow base 2 1 v' (xs ++ [n]).length (I64 (xs ++ [n])) → Below base w w' → wpList Try.prog ops Q rest (a.put o.dst v') w') :
    wpList Try.prog ops Q (o :: rest) a (w.alloc (.cells #[.int .i64 n] 2)) := by
  obtain ⟨i0, hi, hz0, hz1, hz2⟩ := info_parts int_info
  exact wpList_app hgd s x _ ho Try.underlying60 hi hz0 hz1 hz2 rfl (by decide) (by decide) base v xs.length (I64 xs) hs hown [.int .i64 n] rfl (by intro u hu; simp at hu; subst hu; rfl) hx hn hbase
    (fun v' w' h1 h2 _ _ => h v' w' (by simpa [I64] using h1) h2)
end

set_option maxHeartbeats 400000 in
theorem within_any (n lo hi : Int) (w : World) :
    Calls Try.prog 59 #[.int .i64 n, .int .i64 lo, .int .i64 hi] w fun e w' => e = .returned (.bool (inB n lo hi)) ∧ w = w' := by
  go_enter Try.func59, Try.ntmps59
  go_wp2
  all_goals go_ret
  · exact ⟨ret_b (inB_second (by assumption)).symm, rfl⟩
  · exact ⟨ret_b (inB_f1 (by assumption)).symm, rfl⟩
set_option maxHeartbeats 400000 in
theorem l00In_any (n lo hi : Int) (w : World) :
    Calls Try.prog 56 #[.int .i64 n, .int .i64 lo, .int .i64 hi] w fun e w' => e = .returned (.bool (inB n lo hi)) ∧ w = w' := by
  go_enter Try.func56, Try.ntmps56
  go_wp2
  all_goals go_ret
  · exact ⟨ret_b (inB_second (by assumption)).symm, rfl⟩
  · exact ⟨ret_b (inB_f1 (by assumption)).symm, rfl⟩

set_option maxHeartbeats 400000 in
theorem eqInt64S_any (va vb : Value) (xs ys : List Int) (w : World) (ha : Sl w va xs) (hb : Sl w vb ys) :
    Calls Try.prog 45 #[va, vb] w fun e w' => e = .returned (.bool (eqL xs ys)) ∧ ∃ n, w' = w.drewN n := by
  obtain ⟨A, c, rfl, hac, hac', HA⟩ := ha.open_
  obtain ⟨B, d, rfl, hbd, hbd', HB⟩ := hb.open_
  by_cases hl : xs.length = ys.length
  · have HL := Lib.hid hl
    have h1 : ((xs.length : Int) != (ys.length : Int)) = false := by simp [hl]
    clear hl
    go_enter Try.func45, Try.ntmps45
    go_wp2
    go_loopw [5] (fun i wr => ∃ k : Nat, k ≤ xs.length ∧ i = .int .i64 k ∧ SameTo xs ys k ∧ ∃ n, wr = w.drewN n) (fun i _ => xs.length - (intOf i).toNat)
    case atStart => exact ⟨0, Nat.zero_le _, rfl, SameTo.zero _ _, 0, rfl⟩
    case round =>
      obtain ⟨k, hk, rfl, hs, n, rfl⟩ := hrel
      by_cases hlt : k < xs.length
      · obtain ⟨ba, oa, rfl, hba, hca⟩ := HA.out k hlt
        obtain ⟨bb, ob, rfl, hbb, hcb⟩ := HB.out k (by have := HL.out; omega)
        have ca := hca k hlt
        have cb := hcb k (by have := HL.out; omega)
        have hlt' : k < ys.length := by have := HL.out; omega
        have i1 : (k : Int) < (xs.length : Int) := by omega
        have i2 : (k : Int) < (ys.length : Int) := by omega
        clear hca hcb HA HB
        by_cases he : ix xs k = ix ys k
        · have hbq : (ix xs k != ix ys k) = false := by simp [he]
          have HE := Lib.hid he
          clear he
          go_wp2
          go_quiet (fail)
          go_wp2
          go_roundw
          case rel => exact ⟨k + 1, by omega, by go_num, hs.succ HE.out, _, rfl⟩
          case measure => simp [intOf]; omega
        · have hbq : (ix xs k != ix ys k) = true := by simp [he]
          have HE := Lib.hid he
          clear he
          go_wp2
          go_quiet (fail)
          go_wp2
          go_ret
          exact ⟨ret_b (eqL_at HE.out).symm, _, World.drewN_drewN _ _ _⟩
      · go_wp2
        go_ret
        exact ⟨ret_b (hs.eqL HL.out (by omega)).symm, n, rfl⟩
  · have h1 : ((xs.length : Int) != (ys.length : Int)) = true := by simp; omega
    go_enter Try.func45, Try.ntmps45
    go_wp2
    go_ret
    exact ⟨ret_b (eqL_len hl).symm, 0, rfl⟩

set_option maxHeartbeats 400000 in
theorem markInt64S_any (va : Value) (k : Int) (xs : List Int) (base : Nat) (w : World) (ha : w.ownsRow base 2 1 va xs.length (I64 xs)) (h0 : 0 ≤ k) (hk : k ≤ 4294967296) (hm : xs.length ≤ 4294967296) :
    Calls Try.prog 46 #[va, .int .i64 k] w fun e w' => e = .returned (.int .i64 (k + xs.length)) ∧ w'.ownsRow base 2 1 va (runUp k xs.length).length (I64 (runUp k xs.length)) ∧ w.grownBy w' va.ownBlock := by
  have hsl := Sl.of_own ha
  obtain ⟨A, c, rfl, hac, hac', HA⟩ := hsl.open_
  by_cases hn : xs.length = 0
  · have HN := Lib.hid hn
    have hx : xs = [] := List.eq_nil_of_length_eq_zero hn
    subst hx
    clear hn
    go_enter Try.func46, Try.ntmps46
    go_wp2
    go_loop [1, 5] (fun q i => i = .int .i64 0 ∧ q = .int .i64 k) (fun _ i => 0)
    case atStart => exact ⟨rfl, rfl⟩
    case round =>
      obtain ⟨rfl, rfl⟩ := hrel
      go_wp2
      go_ret
      exact ⟨by go_num, ha, World.grownBy.refl _ _⟩
  · obtain ⟨g, cap, hv, _⟩ := ha.form (by omega)
    injection hv with hA hn' hc'
    subst hA
    subst hc'
    have HN := Lib.hid hn
    clear hn hsl HA
    go_enter Try.func46, Try.ntmps46
    go_wp2
    go_loopw [1, 5] (fun q i wr => ∃ j : Nat, j ≤ xs.length ∧ i = .int .i64 j ∧ q = .int .i64 (k + j) ∧ wr.ownsRow base 2 1 (.slice (some ⟨g, 0, none⟩) xs.length c) xs.length (I64 (marked xs k j)) ∧ w.grownBy wr (some g)) (fun _ i _ => xs.length - (intOf i).toNat)
    case atStart => exact ⟨0, Nat.zero_le _, rfl, by go_num, ha, World.grownBy.refl _ _⟩
    case round =>
      obtain ⟨j, hj, rfl, rfl, hown, hg⟩ := hrel
      by_cases hlt : j < xs.length
      · have hcell := hown.cellAt j (by omega)
        rw [I64_get (by rw [marked_length hj]; exact hlt)] at hcell
        have hfz := hown.frozenAt j
        obtain ⟨hs1, hs2⟩ := hown.stored j (.int .i64 (k + (j : Int)))
        rw [marked_set hlt] at hs1
        have HS := Lib.hid hs1
        have HG := Lib.hid (grown_trans hg hs2)
        clear hs1 hs2 hg hown
        go_wp2
        go_roundw
        case rel => exact ⟨j + 1, by omega, by go_num, by go_num, HS.out, HG.out⟩
        case measure => simp [intOf]; omega
      · have : j = xs.length := by omega
        subst this
        rw [marked_all] at hown
        go_wp2
        go_ret
        exact ⟨rfl, by rw [runUp_length]; exact hown, hg⟩

end Go.Proofs.Ytgaohmbgjjhdbaa
