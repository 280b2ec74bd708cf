/- 'append(a, b...)' on numbers that the call owns, b any list of numbers; the operation may be guarded. -/
import Derived.Test.YtgaohmbgjjhdbaaGreatDoorAid
import Derived.Test.YtgaohmbgjjhdbaaGreatDoorBx
import Derived.Handy
namespace Go.Proofs.YtgaohmbgjjhdbaaGreatDoor
open Go.RowKit

theorem run_append_nilG {P : Program} (w : World) (base : Nat) (t ty e : TypeId) (i : TypeInfo) (size : Nat) (ht : P.underlying t = some (.slice e)) (hi : P.info? e = some i)
    (v : Value) (n : Nat) (xs : List Value) (hown : w.ownsRow base e size v n xs) (c : Nat) : (Builtin.append_ #[t, t] ty #[v, .slice none 0 c]).run P w = .ok v w := by
  rcases hown.2 with ⟨rfl, rfl⟩ | ⟨g, cap, cur, rfl, _, _, hnc, _⟩
  · simp [Builtin.append_, run_underlying ht, sizeOf, typeInfo, hi, Builtin.lenOf, Builtin.firstCells]
  · simp [Builtin.append_, run_underlying ht, sizeOf, typeInfo, hi, Builtin.lenOf, Builtin.firstCells, hnc, storeCells]
section
variable {w : World}
set_option maxRecDepth 10000 in
theorem run_appG (ty : TypeId) (base : Nat) (v : Value) (xs : List Int) (hown : w.ownsRow base 2 1 v xs.length (I64 xs)) (u : Value) (ys : List Int) (hy : Sl w u ys) (zs : List Int) (hz : xs ++ ys = zs) (hn : xs.length ≤ 134217728) (hm : ys.length ≤ 134217728) (hbase : base ≤ w.heap.size) :
    ∃ v' w', (Builtin.append_ #[27, 27] ty #[v, u]).run Tryz.prog w = .ok v' w' ∧ w'.ownsRow base 2 1 v' zs.length (I64 zs) ∧ Below base w w' ∧ w.grownBy w' v.ownBlock := by
  subst hz
  obtain ⟨i0, hi, hz0, hz1, hz2⟩ := info_parts int_info
  obtain ⟨A, c, rfl, h1, h2, h3⟩ := hy
  rcases A with _ | ad
  · have hys : ys = [] := by
      cases ys with
      | nil => rfl
      | cons y ys =>
        obtain ⟨b, o, e, _⟩ := h3 (by rw [I64_length]; exact Nat.succ_pos _)
        cases e
    subst hys
    rw [List.append_nil]
    exact ⟨v, w, run_append_nilG w base _ _ _ i0 1 Tryz.underlying27 hi v xs.length (I64 xs) hown c, hown, Below.refl _ _, World.grownBy.refl _ _⟩
  · have hcells : ∀ j x, (I64 ys)[j]? = some x → w.cell? (ad.add j) = some x := by
      intro j x hx
      have hj : j < (I64 ys).length := (List.getElem?_eq_some_iff.1 hx).1
      obtain ⟨b, o, e, _, hc⟩ := h3 (Nat.lt_of_le_of_lt (Nat.zero_le _) hj)
      have e' := Option.some.inj e
      rw [e', Addr.add_lit, hc j hj, hx]
    obtain ⟨v', w', hr, h4, h5, _, _⟩ := run_append_own_at (P := Tryz.prog) w base 27 ty 2 i0 _ 1 8 Tryz.underlying27 hi hz0 hz1 hz2 rfl (by decide) v xs.length (I64 xs) hown ad ys.length c (I64 ys) (by rw [I64_length, Nat.mul_one]) hcells (I64_one ys) (by simp only [maxLen]; omega) (by omega) hbase
    exact ⟨v', w', hr, by simpa [I64] using h4, below_of_grown h5 hbase fun k hk => (hown.lt k hk).1, h5⟩
theorem wpList_appG {ops : Array Oper} {rest : List Oper} {o : Oper} {a : Act} {Q : Exit → Act → World → Prop} (hw : Region.wanted o (yielded ops a.tmps) = true) (s x : Operand)
    (ho : o.op = .call { callee := .builtin .append, args := #[s, x], argTypes := #[27, 27] })
    (base : Nat) (v : Value) (xs : List Int) (hs : a.eval s = v) (hown : w.ownsRow base 2 1 v xs.length (I64 xs)) (u : Value) (hx : a.eval x = u) (ys : List Int) (hy : Sl w u ys) (zs : List Int) (hz : xs ++ ys = zs) (hn : xs.length ≤ 134217728) (hm : ys.length ≤ 134217728) (hbase : base ≤ w.heap.size)
    (h : ∀ v' w', w'.ownsRow base 2 1 v' zs.length (I64 zs) → Below base w w' → w.grownBy w' v.ownBlock → wpList Tryz.prog ops Q rest (a.put o.dst v') w') : wpList Tryz.prog ops Q (o :: rest) a w := by
  obtain ⟨v', w', hr, h2, h3, h4⟩ := run_appG o.type base v xs hown u ys hy zs hz hn hm hbase
  refine BigFrame.wpList_want hw fun K hK => ?_
  unfold Oper.wp execOp
  simp only [ho, resolve, invoke, builtin, Sem.run_bind, Sem.run_pure, Result.andThen_ok, List.map_toArray, List.map_cons, List.map_nil, hs, hx, hr]
  exact hK _ _ (h v' w' h2 h3 h4)
end
end Go.Proofs.YtgaohmbgjjhdbaaGreatDoor
