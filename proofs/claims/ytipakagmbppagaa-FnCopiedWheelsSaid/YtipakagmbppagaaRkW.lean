/- Racks: slices.Concat of two lists, and RackWheel, in the program and in the reference. -/
import Derived.Test.YtipakagmbppagaaRkV
import Derived.Test.YtipakagmbppagaaWhV
import Derived.Lib.AppendZeros
namespace Go.Proofs.Ytipakagmbppagaa
open Go.RowKit
attribute [local go_sem ↓] Go.wp_at_zero Go.wp_at_succ

section
variable {w : World} {ops : Array Oper} {rest : List Oper} {o : Oper} {a : Act} {Q : Exit → Act → World → Prop}
/-- 'xs = append(xs, ys...)' on numbers that the call owns; ys not empty. -/
theorem wpList_appS (hgd : o.guard = none) (s x : Operand) (ho : o.op = .call { callee := .builtin .append, args := #[s, x], argTypes := #[22, 22] })
    (base : Nat) (v : Value) (xs : List Int) (hs : a.eval s = v) (hown : w.ownsRow base 2 1 v xs.length (I64 xs)) (ys : List Int) (vy : Value) (hx : a.eval x = vy) (hy : Sl w vy ys) (h0 : 0 < ys.length)
    (hn : xs.length + ys.length ≤ 134217728) (hbase : base ≤ w.heap.size)
    (h : ∀ v' w', w'.ownsRow base 2 1 v' (xs ++ ys).length (I64 (xs ++ ys)) → Below base w w' → wpList Try.prog ops Q rest (a.put o.dst v') w') :
    wpList Try.prog ops Q (o :: rest) a w := by
  obtain ⟨i0, hi, hz0, hz1, hz2⟩ := info_parts int_info
  obtain ⟨A, c, rfl, hac, hac', HA⟩ := hy.open_
  obtain ⟨b, k, rfl, hb, hc⟩ := HA.out 0 h0
  refine wpList_plain hgd fun K hK => ?_
  have hnew : ∀ j u, (I64 ys)[j]? = some u → w.cell? ((⟨b, k, none⟩ : Addr).add j) = some u := by
    intro j u hu
    have hj : j < ys.length := by
      have := (List.getElem?_eq_some_iff.1 hu).1
      rwa [I64_length] at this
    rw [Addr.add_lit, hc j hj, ← hu, I64_get hj]
  obtain ⟨v', w', hr, h2, h3, _, _⟩ := run_append_own_at (P := Try.prog) w base 22 o.type 2 i0 _ 1 8 Try.underlying22 hi hz0 hz1 hz2 rfl (by decide) v xs.length (I64 xs) hown ⟨b, k, none⟩ ys.length c (I64 ys) (by rw [I64_length, Nat.mul_one]) hnew (I64_one ys)
    (by simp only [maxLen]; omega) (by omega) (by omega)
  unfold Oper.wp execOp
  simp only [ho, resolve, invoke, builtin, Sem.run_bind, Sem.run_pure, Result.andThen_ok, List.map_toArray, List.map_cons, List.map_nil, hs, hx, hr]
  exact hK _ _ (h v' w' (by simpa [I64] using h2) (below_of_grown h3 hbase fun k hk => (hown.lt k hk).1))
end

theorem cap_num {C : Nat} (h : C ≤ maxLen) : C ≤ 9223372036854775807 := by simpa only [maxLen] using h
set_option maxRecDepth 100000 in
set_option maxHeartbeats 1000000 in
theorem Grow_nil (n : Nat) (w : World) (h0 : 0 < n) (hn : n ≤ 1000000) :
    Calls Try.prog 102 #[.slice none 0 0, .int .i64 n] w fun e w' => ∃ v', e = .returned v' ∧ w'.ownsRow w.heap.size 2 1 v' ([] : List Int).length (I64 []) ∧ Below w.heap.size w w' := by
  obtain ⟨i0, hi, hz0, hz1, hz2⟩ := info_parts int_info
  have h1 : (0 : Int) < (n : Int) := by omega
  have hr := Lib.run_append_nil_zeros (P := Try.prog) w 22 3 22 2 i0 _ .i64 .i64 Try.underlying22 Try.underlying3 hi hz0 n h0 (by omega) (by omega) (by rw [hz2]; omega)
  have HR := Lib.hid hr
  have hcap := grownCap_ge w n 0 2
  have hmax := grownCap_le_maxLen w n 0 2 (by simp only [maxLen]; omega)
  have hsz : (Builtin.zeroCells (Value.int .i64 0).cells n ++ Builtin.zeroCells (Value.int .i64 0).cells (grownCap w n 0 2 - n)).size = grownCap w n 0 2 * 1 := by
    rw [Array.size_append, size_zeroCells, size_zeroCells]; simp [Value.cells]; omega
  clear hr
  generalize grownCap w n 0 2 = C at *
  generalize Builtin.zeroCells (Value.int .i64 0).cells n ++ Builtin.zeroCells (Value.int .i64 0).cells (C - n) = Z at *
  have hm2 := cap_num hmax
  have HMx := Lib.hid hmax
  have HZ := Lib.hid hsz
  clear hmax hsz
  go_enter Try.func102, Try.ntmps102
  go_wp2_with (at_builtin; refine Lib.wpList_append_run _ rfl _ _ _ _ rfl _ _ rfl rfl _ _ HR.out ?_)
  go_ret
  have h := World.ownsRow_made (base := w.heap.size) (e := 2) (size := 1) w.drew Z C (by simp) HMx.out HZ.out
  refine ⟨_, rfl, ?_, by go_grown⟩
  exact h

theorem sl_from {w : World} {b o n c : Nat} {ys : List Int} (hn : n = ys.length) (hc : n ≤ c) (hm : c ≤ 9223372036854775807) (hb : b < w.heap.size) (h : ∀ j, j < ys.length → w.cell? ⟨b, o + j, none⟩ = some (.int .i64 (ix ys j))) : Sl w (.slice (some ⟨b, o, none⟩) n c) ys := by
  subst hn
  exact ⟨_, _, rfl, hc, by simpa only [maxLen] using hm, fun _ => ⟨b, o, rfl, hb, fun j hj => by rw [I64_length] at hj; rw [h j hj, I64_get hj]⟩⟩

set_option maxRecDepth 100000 in
set_option maxHeartbeats 4000000 in
theorem Concat2 (g : Nat) (va vb : Value) (xs ys : List Int) (w : World) (ha : Sl w va xs) (hb : Sl w vb ys) (hk : Blk w g 22 #[va, vb]) (h1 : 0 < xs.length) (h2 : 0 < ys.length) (h3 : xs.length ≤ 100000) (h4 : ys.length ≤ 100000) :
    Calls Try.prog 84 #[.slice (some ⟨g, 0, none⟩) 2 2] w fun e w' => ∃ v', e = .returned v' ∧ w'.ownsRow w.heap.size 2 1 v' (xs ++ ys).length (I64 (xs ++ ys)) ∧ Below w.heap.size w w' := by
  have HSA := Lib.hid ha
  have HSB := Lib.hid hb
  obtain ⟨A, c, rfl, hac, hac', _⟩ := ha.open_
  obtain ⟨B, d, rfl, hbd, hbd', _⟩ := hb.open_
  have q0 := hk.cell 0 rfl
  have q1 := hk.cell 1 rfl
  have HK := Lib.hid hk
  have HG := Lib.hid (fun w' => Grow_nil (xs.length + ys.length) w' (by omega) (by omega))
  have i1 : (0 : Int) < (xs.length : Int) := by omega
  have i2 : (0 : Int) < (ys.length : Int) := by omega
  have e0 : ((xs.length + ys.length : Nat) : Int) = (xs.length : Int) + (ys.length : Int) := by omega
  rw [e0] at HG
  clear ha hb hk e0
  go_enter Try.func84, Try.ntmps84
  go_wp2_with fail
  refine wp_loop_rounds 3 ?_
  rw [rounds_succ]
  go_wp2_with fail
  rw [rounds_succ]
  go_wp2_with fail
  rw [rounds_succ]
  go_wp2_with fail
  refine (HG.out _).mono ?_
  rintro e w1 ⟨v1, rfl, o1, hb1⟩
  have q0 := (HK.out.below hb1).cell 0 rfl
  have q1 := (HK.out.below hb1).cell 1 rfl
  have HO := Lib.hid o1
  have SA := Lib.hid (HSA.out.below hb1)
  have hz := hb1.size
  have BB := Lib.hid hb1
  clear o1 hb1
  go_wp2_with fail
  refine wp_loop_rounds 3 ?_
  rw [rounds_succ]
  go_wp2_with (at_builtin; refine wpList_appS rfl _ _ rfl w.heap.size _ [] rfl HO.out xs _ rfl SA.out h1 (by simp; omega) hz ?_; intro v2 w2 o2 hb2)
  have B2 := BB.out.trans hb2
  have q0 := (HK.out.below B2).cell 0 rfl
  have q1 := (HK.out.below B2).cell 1 rfl
  have HO2 := Lib.hid o2
  have SB := Lib.hid (HSB.out.below B2)
  have hz2 := B2.size
  have HB2 := Lib.hid B2
  clear o2 hb2 B2
  rw [rounds_succ]
  go_wp2_with (at_builtin; refine wpList_appS rfl _ _ rfl w.heap.size _ ([] ++ xs) rfl HO2.out ys _ rfl SB.out h2 (by simp; omega) hz2 ?_; intro v3 w3 o3 hb3)
  have HO3 := Lib.hid o3
  have B3 := Lib.hid (HB2.out.trans hb3)
  clear o3 hb3
  rw [rounds_succ]
  go_wp2_with fail
  go_ret
  exact ⟨_, rfl, by simpa using HO3.out, B3.out⟩
end Go.Proofs.Ytipakagmbppagaa
