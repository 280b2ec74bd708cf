/- Contracts of the small helpers on slices of numbers: eqInt64S, heldInt64S, markInt64S; the two tests on bounds. -/
import Derived.Test.YtdlegcjcmhpbcaaProg
import Derived.Test.YtdlegcjcmhpbcaaBase
import Derived.BigQuiet
import Derived.Deep.QuietTactic
namespace Go.Proofs.Ytdlegcjcmhpbcaa
open Go.RowKit

theorem int_info : (Try.prog.info? 2).map (fun i => (i.zero, i.size, i.bytes)) = some (some (.int .i64 0), 1, 8) := by kernel_rfl

section
variable {w : World} {ops : Array Oper} {rest : List Oper} {o : Oper} {a : Act} {Q : Exit → Act → World → Prop}
/-- 'xs = append(xs, x)' on numbers that the call owns. -/
theorem wpList_app1 (hgd : o.guard = none) (s x : Operand) (ho : o.op = .call { callee := .builtin .append, args := #[s, x], argTypes := #[24, 24] })
    (base : Nat) (v : Value) (xs : List Int) (hs : a.eval s = v) (hown : w.ownsRow base 2 1 v xs.length (I64 xs)) (n : Int)
    (hx : a.eval x = .slice (some ⟨w.heap.size, 0, none⟩) 1 1) (hn : xs.length ≤ 134217728) (hbase : base ≤ w.heap.size)
    (h : ∀ v' w', w'.ownsRow base 2 1 v' (xs ++ [n]).length (I64 (xs ++ [n])) → Below base w w' → wpList Try.prog ops Q rest (a.put o.dst v') w') :
    wpList Try.prog ops Q (o :: rest) a (w.alloc (.cells #[.int .i64 n] 2)) := by
  obtain ⟨i0, hi, hz0, hz1, hz2⟩ := info_parts int_info
  exact wpList_app hgd s x _ ho Try.underlying24 hi hz0 hz1 hz2 rfl (by decide) (by decide) base v xs.length (I64 xs) hs hown [.int .i64 n] rfl (by intro u hu; simp at hu; subst hu; rfl) hx hn hbase
    (fun v' w' h1 h2 _ _ => h v' w' (by simpa [I64] using h1) h2)
end

set_option maxHeartbeats 400000 in
theorem within_any (n lo hi : Int) (w : World) :
    Calls Try.prog 41 #[.int .i64 n, .int .i64 lo, .int .i64 hi] w fun e w' => e = .returned (.bool (inB n lo hi)) ∧ w = w' := by
  go_enter Try.func41, Try.ntmps41
  go_wp2
  all_goals go_ret
  · exact ⟨ret_b (inB_second (by assumption)).symm, rfl⟩
  · exact ⟨ret_b (inB_f1 (by assumption)).symm, rfl⟩
set_option maxHeartbeats 400000 in
theorem l00In_any (n lo hi : Int) (w : World) :
    Calls Try.prog 27 #[.int .i64 n, .int .i64 lo, .int .i64 hi] w fun e w' => e = .returned (.bool (inB n lo hi)) ∧ w = w' := by
  go_enter Try.func27, Try.ntmps27
  go_wp2
  all_goals go_ret
  · exact ⟨ret_b (inB_second (by assumption)).symm, rfl⟩
  · exact ⟨ret_b (inB_f1 (by assumption)).symm, rfl⟩

set_option maxHeartbeats 400000 in
theorem eqInt64S_any (va vb : Value) (xs ys : List Int) (w : World) (ha : Sl w va xs) (hb : Sl w vb ys) :
    Calls Try.prog 31 #[va, vb] w fun e w' => e = .returned (.bool (eqL xs ys)) ∧ ∃ n, w' = w.drewN n := by
  obtain ⟨A, c, rfl, hac, hac', HA⟩ := ha.open_
  obtain ⟨B, d, rfl, hbd, hbd', HB⟩ := hb.open_
  by_cases hl : xs.length = ys.length
  · have HL := Lib.hid hl
    have h1 : ((xs.length : Int) != (ys.length : Int)) = false := by simp [hl]
    clear hl
    go_enter Try.func31, Try.ntmps31
    go_wp2
    go_loopw [5] (fun i wr => ∃ k : Nat, k ≤ xs.length ∧ i = .int .i64 k ∧ SameTo xs ys k ∧ ∃ n, wr = w.drewN n) (fun i _ => xs.length - (intOf i).toNat)
    case atStart => exact ⟨0, Nat.zero_le _, rfl, SameTo.zero _ _, 0, rfl⟩
    case round =>
      obtain ⟨k, hk, rfl, hs, n, rfl⟩ := hrel
      by_cases hlt : k < xs.length
      · obtain ⟨ba, oa, rfl, hba, hca⟩ := HA.out k hlt
        obtain ⟨bb, ob, rfl, hbb, hcb⟩ := HB.out k (by have := HL.out; omega)
        have ca := hca k hlt
        have cb := hcb k (by have := HL.out; omega)
        have hlt' : k < ys.length := by have := HL.out; omega
        have i1 : (k : Int) < (xs.length : Int) := by omega
        have i2 : (k : Int) < (ys.length : Int) := by omega
        clear hca hcb HA HB
        by_cases he : ix xs k = ix ys k
        · have hbq : (ix xs k != ix ys k) = false := by simp [he]
          have HE := Lib.hid he
          clear he
          go_wp2
          go_quiet (fail)
          go_wp2
          go_roundw
          case rel => exact ⟨k + 1, by omega, by go_num, hs.succ HE.out, _, rfl⟩
          case measure => simp [intOf]; omega
        · have hbq : (ix xs k != ix ys k) = true := by simp [he]
          have HE := Lib.hid he
          clear he
          go_wp2
          go_quiet (fail)
          go_wp2
          go_ret
          exact ⟨ret_b (eqL_at HE.out).symm, _, World.drewN_drewN _ _ _⟩
      · go_wp2
        go_ret
        exact ⟨ret_b (hs.eqL HL.out (by omega)).symm, n, rfl⟩
  · have h1 : ((xs.length : Int) != (ys.length : Int)) = true := by simp; omega
    go_enter Try.func31, Try.ntmps31
    go_wp2
    go_ret
    exact ⟨ret_b (eqL_len hl).symm, 0, rfl⟩

end Go.Proofs.Ytdlegcjcmhpbcaa
