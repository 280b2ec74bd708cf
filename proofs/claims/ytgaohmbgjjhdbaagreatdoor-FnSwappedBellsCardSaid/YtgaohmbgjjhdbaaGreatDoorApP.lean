/- 'append(a, b...)' on pins that the call owns, b any list of pins. -/
import Derived.Test.YtgaohmbgjjhdbaaGreatDoorPxPin
import Derived.Test.YtgaohmbgjjhdbaaGreatDoorBx
import Derived.Test.YtgaohmbgjjhdbaaGreatDoorApA
import Derived.Handy
namespace Go.Proofs.YtgaohmbgjjhdbaaGreatDoor
open Go.RowKit
section
variable {w : World}
set_option maxRecDepth 10000 in
theorem run_appP (ty : TypeId) (base : Nat) (v : Value) (xs : List (Int × Int)) (hown : w.ownsRow base 49 2 v xs.length (P64 xs)) (u : Value) (ys : List (Int × Int)) (hy : SlP w u ys) (zs : List (Int × Int)) (hz : xs ++ ys = zs) (hn : xs.length ≤ 1048576) (hm : ys.length ≤ 1048576) (hbase : base ≤ w.heap.size) :
    ∃ v' w', (Builtin.append_ #[24, 24] ty #[v, u]).run Tryz.prog w = .ok v' w' ∧ w'.ownsRow base 49 2 v' zs.length (P64 zs) ∧ Below base w w' ∧ w.grownBy w' v.ownBlock := by
  subst hz
  obtain ⟨i0, hi, hz0, hz1, hz2⟩ := info_parts pin_info
  obtain ⟨A, c, rfl, h1, h2, h3⟩ := hy
  rcases A with _ | ad
  · have hys : ys = [] := by
      cases ys with
      | nil => rfl
      | cons y ys =>
        obtain ⟨b, o, e, _⟩ := h3 (by rw [P64_length]; simp)
        cases e
    subst hys
    rw [List.append_nil]
    exact ⟨v, w, run_append_nilG w base _ _ _ i0 2 Tryz.underlying24 hi v xs.length (P64 xs) hown c, hown, Below.refl _ _, World.grownBy.refl _ _⟩
  · have hcells : ∀ j x, (P64 ys)[j]? = some x → w.cell? (ad.add j) = some x := by
      intro j x hx
      have hj : j < (P64 ys).length := (List.getElem?_eq_some_iff.1 hx).1
      obtain ⟨b, o, e, _, hc⟩ := h3 (Nat.lt_of_le_of_lt (Nat.zero_le _) hj)
      have e' := Option.some.inj e
      rw [e', Addr.add_lit, hc j hj, hx]
    obtain ⟨v', w', hr, h4, h5, _, _⟩ := run_append_own_at (P := Tryz.prog) w base 24 ty 49 i0 _ 2 16 Tryz.underlying24 hi hz0 hz1 hz2 rfl (by decide) v xs.length (P64 xs) hown ad ys.length c (P64 ys) (by rw [P64_length]) hcells (P64_one ys) (by simp only [maxLen]; omega) (by omega) hbase
    exact ⟨v', w', hr, by simpa [P64_append] using h4, below_of_grown h5 hbase fun k hk => (hown.lt k hk).1, h5⟩
theorem wpList_appP {ops : Array Oper} {rest : List Oper} {o : Oper} {a : Act} {Q : Exit → Act → World → Prop} (hw : Region.wanted o (yielded ops a.tmps) = true) (s x : Operand)
    (ho : o.op = .call { callee := .builtin .append, args := #[s, x], argTypes := #[24, 24] })
    (base : Nat) (v : Value) (xs : List (Int × Int)) (hs : a.eval s = v) (hown : w.ownsRow base 49 2 v xs.length (P64 xs)) (u : Value) (hx : a.eval x = u) (ys : List (Int × Int)) (hy : SlP w u ys) (zs : List (Int × Int)) (hz : xs ++ ys = zs) (hn : xs.length ≤ 1048576) (hm : ys.length ≤ 1048576) (hbase : base ≤ w.heap.size)
    (h : ∀ v' w', w'.ownsRow base 49 2 v' zs.length (P64 zs) → Below base w w' → w.grownBy w' v.ownBlock → wpList Tryz.prog ops Q rest (a.put o.dst v') w') : wpList Tryz.prog ops Q (o :: rest) a w := by
  obtain ⟨v', w', hr, h2, h3, h4⟩ := run_appP o.type base v xs hown u ys hy zs hz hn hm hbase
  refine BigFrame.wpList_want hw fun K hK => ?_
  unfold Oper.wp execOp
  simp only [ho, resolve, invoke, builtin, Sem.run_bind, Sem.run_pure, Result.andThen_ok, List.map_toArray, List.map_cons, List.map_nil, hs, hx, hr]
  exact hK _ _ (h v' w' h2 h3 h4)
end
end Go.Proofs.YtgaohmbgjjhdbaaGreatDoor
