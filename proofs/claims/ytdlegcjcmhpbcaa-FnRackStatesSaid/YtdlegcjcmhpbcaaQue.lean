/- A row of pairs that the call owns and that is taken from at its front: what stands from some place on. -/
import Derived.Test.YtdlegcjcmhpbcaaPxB
import Derived.Test.YtdlegcjcmhpbcaaBx
import Derived.ArgAppend
namespace Go.Proofs.Ytdlegcjcmhpbcaa
open Go.RowKit

/-- v is a slice of the call's own memory that reads as the pairs ps. -/
def Que (w : World) (base : Nat) (e : TypeId) (v : Value) (ps : List (Int × Int)) : Prop :=
  ∃ g off cap cur, v = .slice (some ⟨g, off, none⟩) ps.length cap ∧ base ≤ g ∧ w.heap[g]? = some (.cells cur e (0, 0)) ∧ ps.length ≤ cap ∧ cap ≤ maxLen ∧ off + cap * 2 ≤ cur.size ∧ (cur.toList.drop off).take (ps.length * 2) = P64 ps
section
variable {w w' : World} {base : Nat} {e : TypeId} {v : Value} {ps : List (Int × Int)}
theorem Que.of_own (h : w.ownsRow base e 2 v ps.length (P64 ps)) (hn : 1 ≤ ps.length) : Que w base e v ps := by
  obtain ⟨_, h0 | ⟨g, cap, cur, rfl, h1, h2, h3, h4, h5, h6⟩⟩ := h
  · omega
  · exact ⟨g, 0, cap, cur, rfl, h1, h2, h3, h4, by omega, by simpa using h6⟩
theorem Que.lt (h : Que w base e v ps) (k : Nat) (hk : v.ownBlock = some k) : base ≤ k ∧ k < w.heap.size := by
  obtain ⟨g, off, cap, cur, rfl, h1, h2, _⟩ := h
  obtain rfl : g = k := by simpa [Value.ownBlock] using hk
  exact ⟨h1, (Array.getElem?_eq_some_iff.1 h2).1⟩
theorem Que.kept {row : Option Nat} (h : Que w base e v ps) (hg : w.grownBy w' row) (hne : ∀ b, v.ownBlock = some b → some b ≠ row) : Que w' base e v ps := by
  have hl := h.lt
  obtain ⟨g, off, cap, cur, rfl, h1, h2, h3⟩ := h
  exact ⟨g, off, cap, cur, rfl, h1, (hg.block g (hl g rfl).2 (hne g rfl)).trans h2, h3⟩
theorem Que.below (h : Que w base e v ps) (hb : Below w.heap.size w w') : Que w' base e v ps := by
  have hl := h.lt
  obtain ⟨g, off, cap, cur, rfl, h1, h2, h3⟩ := h
  exact ⟨g, off, cap, cur, rfl, h1, (hb.block g (hl g rfl).2).trans h2, h3⟩
theorem Que.alloc (h : Que w base e v ps) (o : Obj) : Que (w.alloc o) base e v ps := h.below ((Below.refl _ _).alloc (Nat.le_refl _) o)
theorem Que.drew (h : Que w base e v ps) : Que w.drew base e v ps := h
theorem Que.far (h : Que w base e v ps) {p : Addr} (hp : some p.block ≠ v.ownBlock) (u : Value) : Que (w.setCell p u) base e v ps := by
  obtain ⟨g, off, cap, cur, rfl, h1, h2, h3⟩ := h
  exact ⟨g, off, cap, cur, rfl, h1, (Below.heap_setCell w p u g (fun e => hp (by rw [← e]; rfl))).trans h2, h3⟩
theorem Que.mono {base' : Nat} (h : Que w base e v ps) (hb : base' ≤ base) : Que w base' e v ps := by
  obtain ⟨g, off, cap, cur, rfl, h1, h2⟩ := h
  exact ⟨g, off, cap, cur, rfl, by omega, h2⟩
/-- The cells of the j-th pair. -/
theorem Que.open_ (h : Que w base e v ps) : ∃ g off cap, v = .slice (some ⟨g, off, none⟩) ps.length cap ∧ base ≤ g ∧ g < w.heap.size ∧ ps.length ≤ cap ∧ cap ≤ maxLen ∧
    Hid (∀ j, j < ps.length → w.cell? ⟨g, off + j * 2, none⟩ = some (.int .i64 (pi ps j).1) ∧ w.cell? ⟨g, off + j * 2 + 1, none⟩ = some (.int .i64 (pi ps j).2)) := by
  have hl := h.lt
  obtain ⟨g, off, cap, cur, rfl, h1, h2, h3, h4, h5, h6⟩ := h
  refine ⟨g, off, cap, rfl, h1, (hl g rfl).2, h3, h4, fun j hj => ?_⟩
  have hp := P64_get hj
  rw [← h6] at hp
  have hc : ∀ i x, ((cur.toList.drop off).take (ps.length * 2))[i]? = some x → w.cell? ⟨g, off + i, none⟩ = some x := fun i x hx => by
    rw [cell_of_row w g (off + i) cur e (0, 0) h2]
    rw [List.getElem?_take] at hx
    split at hx
    · rw [List.getElem?_drop] at hx
      simpa using hx
    · cases hx
  exact ⟨hc _ _ hp.1, hc _ _ hp.2⟩
/-- The front is taken. -/
theorem Que.pop {g off cap : Nat} {x : Int × Int} {n : Nat} (h : Que w base e (.slice (some ⟨g, off, none⟩) n cap) (x :: ps)) : Que w base e (.slice (some ⟨g, off + 2, none⟩) (n - 1) (cap - 1)) ps := by
  obtain ⟨g', off', cap', cur, hv, h1, h2, h3, h4, h5, h6⟩ := h
  simp only [Value.slice.injEq, Option.some.injEq, Addr.mk.injEq, and_true] at hv
  obtain ⟨⟨rfl, rfl⟩, rfl, rfl⟩ := hv
  simp only [List.length_cons] at h3 h5 h6
  refine ⟨g, off + 2, cap - 1, cur, by simp, h1, h2, by omega, by omega, by omega, ?_⟩
  have h7 := congrArg (List.drop 2) h6
  rw [List.drop_take, List.drop_drop] at h7
  have e1 : (ps.length + 1) * 2 - 2 = ps.length * 2 := by omega
  rw [e1] at h7
  rw [h7]
  rfl
/-- .. where nothing is left behind it. -/
theorem Que.pop0 {g off : Nat} {x : Int × Int} {n : Nat} (h : Que w base e (.slice (some ⟨g, off, none⟩) n 1) (x :: ps)) : Que w base e (.slice (some ⟨g, off, none⟩) (n - 1) 0) ps := by
  obtain ⟨g', off', cap', cur, hv, h1, h2, h3, h4, h5, h6⟩ := h
  simp only [Value.slice.injEq, Option.some.injEq, Addr.mk.injEq, and_true] at hv
  obtain ⟨⟨rfl, rfl⟩, rfl, rfl⟩ := hv
  simp only [List.length_cons] at h3 h5 h6
  have h0 : ps = [] := List.eq_nil_of_length_eq_zero (by omega)
  subst h0
  exact ⟨g, off, 0, cur, by simp, h1, h2, by simp, by decide, by omega, by simp [P64]⟩
end
section
variable {ops : Array Oper} {rest : List Oper} {o : Oper} {a : Act} {Q : Exit → Act → World → Prop}
/-- 'q = append(q, x)'. -/
theorem wpList_appq {w : World} (hgd : o.guard = none) (s x : Operand) (t : TypeId) (ho : o.op = .call { callee := .builtin .append, args := #[s, x], argTypes := #[t, t] })
    (e : TypeId) (i : TypeInfo) (z : Value) (bytes : Nat) (h1 : Try.prog.underlying t = some (.slice e)) (h2 : Try.prog.info? e = some i) (h3 : i.zero = some z) (h4 : i.size = 2) (h5 : i.bytes = bytes) (h6 : z.cells.size = 2) (hby : bytes ≤ 16)
    (base : Nat) (v : Value) (ps : List (Int × Int)) (hs : a.eval s = v) (hown : Que w base e v ps) (y : Int × Int)
    (ad : Addr) (hx : a.eval x = .slice (some ad) 1 1) (hc0 : w.cell? (ad.add 0) = some (.int .i64 y.1)) (hc1 : w.cell? (ad.add 1) = some (.int .i64 y.2)) (hn : ps.length ≤ 134217728) (hbase : base ≤ w.heap.size)
    (h : ∀ v' w', Que w' base e v' (ps ++ [y]) → Below base w w' → w.grownBy w' v.ownBlock → (∀ k, v'.ownBlock = some k → v.ownBlock = some k ∨ w.heap.size ≤ k) → wpList Try.prog ops Q rest (a.put o.dst v') w') :
    wpList Try.prog ops Q (o :: rest) a w := by
  have HQ := hown
  obtain ⟨g, off, cap, cur, rfl, q1, q2, q3, q4, q5, q6⟩ := hown
  have hcell : ∀ j u, (P64 ps)[j]? = some u → w.cell? ⟨g, off + j, none⟩ = some u := fun j u hj => by
    rw [cell_of_row w g (off + j) cur e (0, 0) q2]
    rw [← q6, List.getElem?_take] at hj
    split at hj
    · rw [List.getElem?_drop] at hj; simpa using hj
    · cases hj
  have hnews : ([.int .i64 y.1, .int .i64 y.2] : List Value) = P64 [y] := rfl
  refine wpList_append_arg w hgd s x t ho e i z 2 bytes h1 h2 h3 h4 h5 h6 (by decide) g off ps.length cap (P64 ps) hs (P64_length ps) hcell ad 1 1 (P64 [y]) hx (by rfl)
    (fun j u hj => ?_) (P64_one [y]) (fun hr j hj => ?_) (by simp only [maxLen]; omega) ?_ (fun hr => ?_) (fun hr v' w' hown' hg' => ?_)
  · match j, hj with
    | 0, hj => rw [hc0]; exact hj
    | 1, hj => rw [hc1]; exact hj
  · have hj2 : j < 2 := hj
    refine ⟨?_, ?_⟩
    · rw [cell_of_row w g _ cur e (0, 0) q2, Array.getElem?_eq_getElem (by omega)]; rfl
    · simp [World.frozen?, q2]
  · have := Nat.mul_le_mul (show ps.length + 1 ≤ 134217729 by omega) hby
    omega
  · have b0 : Blk w g e cur := q2
    have b2 := (b0.set_ (off + ps.length * 2) (.int .i64 y.1)).set_ (off + ps.length * 2 + 1) (.int .i64 y.2)
    have e0 : w.setCells g (off + ps.length * 2) (P64 [y]) = (w.setCell ⟨g, off + ps.length * 2, none⟩ (.int .i64 y.1)).setCell ⟨g, off + ps.length * 2 + 1, none⟩ (.int .i64 y.2) := rfl
    rw [e0]
    have e2 : ps.length + 1 = (ps ++ [y]).length := by simp
    refine h _ _ ⟨g, off, cap, _, by rw [← e2], q1, b2, by rw [← e2]; exact hr, q4, by simp; omega, ?_⟩ ?_ ?_ (fun k hk => Or.inl hk)
    · rw [P64_append]
      apply List.ext_getElem?
      intro j
      rw [List.getElem?_take, ← e2]
      rcases Nat.lt_or_ge j (ps.length * 2) with hj | hj
      · rw [if_pos (by omega), List.getElem?_drop, List.getElem?_append_left (by rw [P64_length]; exact hj), ← q6, List.getElem?_take, if_pos hj, List.getElem?_drop, Array.getElem?_toList, Array.getElem?_toList, Array.getElem?_setIfInBounds, if_neg (by omega), Array.getElem?_setIfInBounds, if_neg (by omega)]
      · rcases Nat.lt_or_ge j (ps.length * 2 + 2) with hj2 | hj2
        · rw [if_pos (by omega), List.getElem?_drop, List.getElem?_append_right (by rw [P64_length]; exact hj), P64_length, Array.getElem?_toList, Array.getElem?_setIfInBounds]
          rcases (by omega : j = ps.length * 2 ∨ j = ps.length * 2 + 1) with rfl | rfl
          · rw [if_neg (by omega), Array.getElem?_setIfInBounds, if_pos rfl, if_pos (by omega), Nat.sub_self]; rfl
          · rw [if_pos (by omega), if_pos (by simp; omega), show ps.length * 2 + 1 - ps.length * 2 = 1 by omega]; rfl
        · rw [if_neg (by omega), List.getElem?_eq_none (by rw [List.length_append, P64_length, P64_length]; simp; omega)]
    · exact ((Below.refl base w).setCell (by simpa using q1) _).setCell (by simpa using q1) _
    · exact ⟨rfl, rfl, rfl, by simp, fun k hk hne => by
        have : k ≠ g := fun e => hne (by rw [e]; rfl)
        rw [Below.heap_setCell _ _ _ _ this, Below.heap_setCell _ _ _ _ this]⟩
  · refine h v' w' ?_ ?_ ?_ (fun k hk => Or.inr (hown'.lt k hk).1)
    · have e1 : P64 ps ++ P64 [y] = P64 (ps ++ [y]) := (P64_append ps [y]).symm
      have e2 : ps.length + 1 = (ps ++ [y]).length := by simp
      rw [e1, e2] at hown'
      exact (Que.of_own hown' (by simp)).mono hbase
    · exact below_of_grown hg' hbase (fun k hk => by cases hk)
    · exact ⟨hg'.os, hg'.tape, hg'.output, hg'.size, fun k hk _ => hg'.block k hk (by simp)⟩
/-- 'q = append(q, x, y)'. -/
theorem wpList_appq2 {w : World} (hgd : o.guard = none) (s x : Operand) (t : TypeId) (ho : o.op = .call { callee := .builtin .append, args := #[s, x], argTypes := #[t, t] })
    (e : TypeId) (i : TypeInfo) (z : Value) (bytes : Nat) (h1 : Try.prog.underlying t = some (.slice e)) (h2 : Try.prog.info? e = some i) (h3 : i.zero = some z) (h4 : i.size = 2) (h5 : i.bytes = bytes) (h6 : z.cells.size = 2) (hby : bytes ≤ 16)
    (base : Nat) (v : Value) (ps : List (Int × Int)) (hs : a.eval s = v) (hown : Que w base e v ps) (y y2 : Int × Int)
    (ad : Addr) (hx : a.eval x = .slice (some ad) 2 2) (hc0 : w.cell? (ad.add 0) = some (.int .i64 y.1)) (hc1 : w.cell? (ad.add 1) = some (.int .i64 y.2)) (hc2 : w.cell? (ad.add 2) = some (.int .i64 y2.1)) (hc3 : w.cell? (ad.add 3) = some (.int .i64 y2.2)) (hn : ps.length ≤ 134217728) (hbase : base ≤ w.heap.size)
    (h : ∀ v' w', Que w' base e v' (ps ++ [y, y2]) → Below base w w' → w.grownBy w' v.ownBlock → (∀ k, v'.ownBlock = some k → v.ownBlock = some k ∨ w.heap.size ≤ k) → wpList Try.prog ops Q rest (a.put o.dst v') w') :
    wpList Try.prog ops Q (o :: rest) a w := by
  have HQ := hown
  obtain ⟨g, off, cap, cur, rfl, q1, q2, q3, q4, q5, q6⟩ := hown
  have hcell : ∀ j u, (P64 ps)[j]? = some u → w.cell? ⟨g, off + j, none⟩ = some u := fun j u hj => by
    rw [cell_of_row w g (off + j) cur e (0, 0) q2]
    rw [← q6, List.getElem?_take] at hj
    split at hj
    · rw [List.getElem?_drop] at hj; simpa using hj
    · cases hj
  refine wpList_append_arg w hgd s x t ho e i z 2 bytes h1 h2 h3 h4 h5 h6 (by decide) g off ps.length cap (P64 ps) hs (P64_length ps) hcell ad 2 2 (P64 [y, y2]) hx (by rfl)
    (fun j u hj => ?_) (P64_one [y, y2]) (fun hr j hj => ?_) (by simp only [maxLen]; omega) ?_ (fun hr => ?_) (fun hr v' w' hown' hg' => ?_)
  · match j, hj with
    | 0, hj => rw [hc0]; exact hj
    | 1, hj => rw [hc1]; exact hj
    | 2, hj => rw [hc2]; exact hj
    | 3, hj => rw [hc3]; exact hj
  · have hj2 : j < 4 := hj
    refine ⟨?_, ?_⟩
    · rw [cell_of_row w g _ cur e (0, 0) q2, Array.getElem?_eq_getElem (by omega)]; rfl
    · simp [World.frozen?, q2]
  · have := Nat.mul_le_mul (show ps.length + 2 ≤ 134217730 by omega) hby
    omega
  · have b0 : Blk w g e cur := q2
    have b2 := (((b0.set_ (off + ps.length * 2) (.int .i64 y.1)).set_ (off + ps.length * 2 + 1) (.int .i64 y.2)).set_ (off + ps.length * 2 + 2) (.int .i64 y2.1)).set_ (off + ps.length * 2 + 3) (.int .i64 y2.2)
    have e0 : w.setCells g (off + ps.length * 2) (P64 [y, y2]) = (((w.setCell ⟨g, off + ps.length * 2, none⟩ (.int .i64 y.1)).setCell ⟨g, off + ps.length * 2 + 1, none⟩ (.int .i64 y.2)).setCell ⟨g, off + ps.length * 2 + 2, none⟩ (.int .i64 y2.1)).setCell ⟨g, off + ps.length * 2 + 3, none⟩ (.int .i64 y2.2) := rfl
    rw [e0]
    have e2 : ps.length + 2 = (ps ++ [y, y2]).length := by simp
    refine h _ _ ⟨g, off, cap, _, by rw [← e2], q1, b2, by rw [← e2]; exact hr, q4, by simp; omega, ?_⟩ ?_ ?_ (fun k hk => Or.inl hk)
    · rw [P64_append]
      apply List.ext_getElem?
      intro j
      rw [List.getElem?_take, ← e2]
      rcases Nat.lt_or_ge j (ps.length * 2) with hj | hj
      · rw [if_pos (by omega), List.getElem?_drop, List.getElem?_append_left (by rw [P64_length]; exact hj), ← q6, List.getElem?_take, if_pos hj, List.getElem?_drop, Array.getElem?_toList, Array.getElem?_toList, Array.getElem?_setIfInBounds, if_neg (by omega), Array.getElem?_setIfInBounds, if_neg (by omega), Array.getElem?_setIfInBounds, if_neg (by omega), Array.getElem?_setIfInBounds, if_neg (by omega)]
      · rcases Nat.lt_or_ge j (ps.length * 2 + 4) with hj2 | hj2
        · obtain ⟨d, rfl⟩ : ∃ d, j = ps.length * 2 + d := ⟨j - ps.length * 2, by omega⟩
          have hd : d < 4 := by omega
          rw [if_pos (by omega), List.getElem?_drop, List.getElem?_append_right (by rw [P64_length]; exact hj), P64_length, Array.getElem?_toList, Nat.add_sub_cancel_left]
          simp only [Array.getElem?_setIfInBounds, Array.size_setIfInBounds, ← Nat.add_assoc]
          match d, hd with
          | 0, _ => rw [if_neg (by omega), if_neg (by omega), if_neg (by omega), if_pos (by omega), if_pos (by omega)]; rfl
          | 1, _ => rw [if_neg (by omega), if_neg (by omega), if_pos rfl, if_pos (by omega)]; rfl
          | 2, _ => rw [if_neg (by omega), if_pos rfl, if_pos (by omega)]; rfl
          | 3, _ => rw [if_pos rfl, if_pos (by omega)]; rfl
        · rw [if_neg (by omega), List.getElem?_eq_none (by rw [List.length_append, P64_length, P64_length]; simp; omega)]
    · exact (((((Below.refl base w).setCell (by simpa using q1) _).setCell (by simpa using q1) _).setCell (by simpa using q1) _).setCell (by simpa using q1) _)
    · exact ⟨rfl, rfl, rfl, by simp, fun k hk hne => by
        have : k ≠ g := fun e => hne (by rw [e]; rfl)
        rw [Below.heap_setCell _ _ _ _ this, Below.heap_setCell _ _ _ _ this, Below.heap_setCell _ _ _ _ this, Below.heap_setCell _ _ _ _ this]⟩
  · refine h v' w' ?_ ?_ ?_ (fun k hk => Or.inr (hown'.lt k hk).1)
    · have e1 : P64 ps ++ P64 [y, y2] = P64 (ps ++ [y, y2]) := (P64_append ps [y, y2]).symm
      have e2 : ps.length + 2 = (ps ++ [y, y2]).length := by simp
      rw [e1, e2] at hown'
      exact (Que.of_own hown' (by simp)).mono hbase
    · exact below_of_grown hg' hbase (fun k hk => by cases hk)
    · exact ⟨hg'.os, hg'.tape, hg'.output, hg'.size, fun k hk _ => hg'.block k hk (by simp)⟩
end
end Go.Proofs.Ytdlegcjcmhpbcaa
