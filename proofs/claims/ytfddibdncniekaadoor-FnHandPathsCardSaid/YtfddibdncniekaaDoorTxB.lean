/- Hands: words on rows of texts and of states in memory, and on marks by a state's number. -/
import Derived.Test.YtfddibdncniekaaDoorWyB
import Derived.Test.YtfddibdncniekaaDoorPxHandState
import Derived.Deep.AppendLies
import Derived.Deep.RegionLaw
namespace Go.Proofs.YtfddibdncniekaaDoor
open Go.RowKit

/-- The cells of the paths of a list of ways; the states. -/
def T64 (L : List Way) : List Value := L.map fun y => .string y.2
def stW (L : List Way) : List (Int × Int) := L.map Prod.fst
theorem T64_length (L : List Way) : (T64 L).length = L.length := by simp [T64]
theorem T64_append (L M : List Way) : T64 (L ++ M) = T64 L ++ T64 M := by simp [T64]
theorem stW_length (L : List Way) : (stW L).length = L.length := by simp [stW]
theorem stW_append (L M : List Way) : stW (L ++ M) = stW L ++ stW M := by simp [stW]
theorem T64_get {L : List Way} {k : Nat} (h : k < L.length) : (T64 L)[k]? = some (.string (pw L k).2) := by
  rw [T64, List.getElem?_map, List.getElem?_eq_getElem h, pw_eq h]; rfl
theorem P64st_get {L : List Way} {k : Nat} (h : k < L.length) : (P64 (stW L))[k * 2]? = some (.int .i64 (pw L k).1.1) ∧ (P64 (stW L))[k * 2 + 1]? = some (.int .i64 (pw L k).1.2) := by
  induction L generalizing k with
  | nil => simp at h
  | cons x L ih =>
    cases k with
    | zero => simp [stW, P64, pw]
    | succ k =>
      have hk : k < L.length := by simpa using h
      have e := ih hk
      have e2 : (k + 1) * 2 = k * 2 + 1 + 1 := by omega
      have e3 : pw (x :: L) (k + 1) = pw L k := by simp [pw]
      rw [e2, e3]
      simpa [stW, P64] using e
theorem own_txt {w : World} {base : Nat} {e : TypeId} {v : Value} {L : List Way} (h : w.ownsRow base e 1 v L.length (T64 L)) (hp : 0 < L.length) :
    ∃ b c, v = .slice (some ⟨b, 0, none⟩) L.length c ∧ base ≤ b ∧ b < w.heap.size ∧ L.length ≤ c ∧ c ≤ maxLen ∧ Hid (∀ k, k < L.length → w.cell? ⟨b, k, none⟩ = some (.string (pw L k).2)) := by
  have hl := h.lt
  obtain ⟨_, h0 | ⟨g, cap, cur, rfl, h1, h2, h3, h4, h5, h6⟩⟩ := h
  · omega
  · refine ⟨g, cap, rfl, h1, (hl g rfl).2, h3, h4, fun k hk => ?_⟩
    have e1 := T64_get hk
    rw [← h6] at e1
    rw [cell_of_row w g k cur e (0, 0) h2]
    rw [List.getElem?_take] at e1
    split at e1
    · simpa using e1
    · cases e1
theorem own_sts {w : World} {base : Nat} {e : TypeId} {v : Value} {L : List Way} (h : w.ownsRow base e 2 v L.length (P64 (stW L))) (hp : 0 < L.length) :
    ∃ b c, v = .slice (some ⟨b, 0, none⟩) L.length c ∧ base ≤ b ∧ b < w.heap.size ∧ L.length ≤ c ∧ c ≤ maxLen ∧
      Hid (∀ k, k < L.length → w.cell? ⟨b, k * 2, none⟩ = some (.int .i64 (pw L k).1.1) ∧ w.cell? ⟨b, k * 2 + 1, none⟩ = some (.int .i64 (pw L k).1.2)) := by
  have hl := h.lt
  obtain ⟨_, h0 | ⟨g, cap, cur, rfl, h1, h2, h3, h4, h5, h6⟩⟩ := h
  · omega
  · refine ⟨g, cap, rfl, h1, (hl g rfl).2, h3, h4, fun k hk => ?_⟩
    obtain ⟨e1, e2⟩ := P64st_get hk
    rw [← h6] at e1 e2
    have hc : ∀ i x, (cur.toList.take (L.length * 2))[i]? = some x → w.cell? ⟨g, i, none⟩ = some x := fun i x hx => by
      rw [cell_of_row w g i cur e (0, 0) h2]
      rw [List.getElem?_take] at hx
      split at hx
      · simpa using hx
      · cases hx
    exact ⟨hc _ _ e1, hc _ _ e2⟩
theorem string_info : (Tryd.prog.info? 9).map (fun i => (i.zero, i.size, i.bytes)) = some (some (.string ⟨#[]⟩), 1, 16) := by kernel_rfl
section
variable {w : World} {ops : Array Oper} {o : Oper} {a : Act} {K : Act → World → Prop} {Q : Exit → Act → World → Prop} {E : Prop}
/-- 'xs = append(xs, text)' on texts that the call owns, in a region that draws its order. -/
theorem step_appT (hgd : o.guard = none) (s x : Operand) (ho : o.op = .call { callee := .builtin .append, args := #[s, x], argTypes := #[71, 71] })
    (base : Nat) (v : Value) (L : List Way) (hs : a.eval s = v) (hown : w.ownsRow base 9 1 v L.length (T64 L)) (y : Way)
    (g : Nat) (hx : a.eval x = .slice (some ⟨g, 0, none⟩) 1 1) (hnew : w.heap[g]? = some (.cells #[.string y.2] 9 (0, 0))) (hn : L.length ≤ 134217728) (hbase : base ≤ w.heap.size)
    (h : ∀ b c w', w'.ownsRow base 9 1 (.slice (some ⟨b, 0, none⟩) (L.length + 1) c) (L ++ [y]).length (T64 (L ++ [y])) → Below base w w' → w.grownBy w' v.ownBlock → (v.ownBlock = some b ∨ b = w.heap.size) → K (a.put o.dst (.slice (some ⟨b, 0, none⟩) (L.length + 1) c)) w') :
    if Region.wanted o (yielded ops a.tmps) = true then Oper.wp Tryd.prog o a w K Q else E := by
  obtain ⟨i0, hi, hz0, hz1, hz2⟩ := info_parts string_info
  refine step_append_lies w hgd s x _ ho base 9 i0 _ 1 16 Tryd.underlying71 hi hz0 hz1 hz2 rfl (by decide) v L.length (T64 L) hs hown ⟨g, 0, none⟩ 1 1 [.string y.2] hx rfl
    (World.news_of_block (cs := #[.string y.2]) (t := 9) (fr := (0, 0)) hnew) (by intro u hu; simp at hu; subst hu; rfl) (by decide) (by simp only [maxLen]; omega) (by omega) hbase w.heap.size rfl ?_
  intro b c w' h1 h2 h3 _
  exact h b c w' (by rw [T64_append]; simpa [T64] using h1) (below_of_grown h2 hbase fun k hk => (hown.lt k hk).1) h2 h3
end
section
variable {w : World} {ops : Array Oper} {rest : List Oper} {o : Oper} {a : Act} {Q : Exit → Act → World → Prop}
/-- A state is put behind a row of states that the call owns. -/
theorem wpList_appS (hgd : o.guard = none) (s x : Operand) (ho : o.op = .call { callee := .builtin .append, args := #[s, x], argTypes := #[57, 57] })
    (base : Nat) (v : Value) (L : List Way) (hs : a.eval s = v) (hown : w.ownsRow base 28 2 v L.length (P64 (stW L))) (y : Way)
    (g : Nat) (hx : a.eval x = .slice (some ⟨g, 0, none⟩) 1 1) (hg : w.heap.size = g) (hn : L.length ≤ 134217728) (hbase : base ≤ w.heap.size)
    (h : ∀ v' w', w'.ownsRow base 28 2 v' (L ++ [y]).length (P64 (stW (L ++ [y]))) → Below base w w' → w.grownBy w' v.ownBlock → (v'.ownBlock = v.ownBlock ∨ v'.ownBlock = some (w.heap.size + 1)) → wpList Tryd.prog ops Q rest (a.put o.dst v') w') :
    wpList Tryd.prog ops Q (o :: rest) a (w.alloc (.cells #[.int .i64 y.1.1, .int .i64 y.1.2] 28)) := by
  subst hg
  obtain ⟨i0, hi, hz0, hz1, hz2⟩ := info_parts handState_info
  exact wpList_app hgd s x _ ho Tryd.underlying57 hi hz0 hz1 hz2 rfl (by decide) (by decide) base v L.length (P64 (stW L)) hs hown [.int .i64 y.1.1, .int .i64 y.1.2] rfl (by intro u hu; simp at hu; rcases hu with rfl | rfl <;> rfl) hx hn hbase
    (fun v' w' h1 h2 h3 h4 => h v' w' (by rw [stW_append, P64_append]; simpa [P64, stW] using h1) h2 h3 h4)
end

/-- The marks: one for each number of a state. -/
def SeenH (w : World) (k n : Nat) (C : List Nat) : Prop := ∃ cur, Blk w k 4 cur ∧ cur.size = n ∧ ∀ c, c < n → cur[c]? = some (.bool (decide (c ∈ C)))
section
variable {w w' : World} {k n : Nat} {C : List Nat}
theorem SeenH.lt (h : SeenH w k n C) : k < w.heap.size := by obtain ⟨cur, hb, _⟩ := h; exact hb.lt
theorem SeenH.cell (h : SeenH w k n C) {c : Nat} (hc : c < n) : w.cell? ⟨k, c, none⟩ = some (.bool (decide (c ∈ C))) := by
  obtain ⟨cur, hb, _, h2⟩ := h
  exact hb.cell c (h2 c hc)
theorem SeenH.frozen (h : SeenH w k n C) (c : Nat) : w.frozen? ⟨k, c, none⟩ = false := by
  obtain ⟨cur, hb, _, h2⟩ := h
  exact hb.frozen c
theorem SeenH.mark (h : SeenH w k n C) {x : Nat} (hx : x < n) : SeenH (w.setCell ⟨k, x, none⟩ (.bool true)) k n (C ++ [x]) := by
  obtain ⟨cur, hb, h1, h2⟩ := h
  refine ⟨_, hb.set_ x (.bool true), by simp [h1], fun c hc => ?_⟩
  rw [Array.getElem?_setIfInBounds]
  by_cases e : x = c
  · subst e; rw [if_pos rfl, if_pos (by omega)]; simp
  · rw [if_neg e, h2 c hc]
    have : (c ∈ C ++ [x]) ↔ c ∈ C := by
      rw [List.mem_append, List.mem_singleton]
      exact ⟨fun h => h.elim id fun h => absurd h.symm e, Or.inl⟩
    simp only [this]
theorem SeenH.belowB {B : Nat} (h : SeenH w k n C) (hb : Below B w w') (hk : k < B) : SeenH w' k n C := by
  obtain ⟨cur, h0, h1⟩ := h
  exact ⟨cur, h0.belowB hb hk, h1⟩
theorem SeenH.below (h : SeenH w k n C) (hb : Below w.heap.size w w') : SeenH w' k n C := h.belowB hb h.lt
theorem SeenH.alloc (h : SeenH w k n C) (o : Obj) : SeenH (w.alloc o) k n C := h.below ((Below.refl _ _).alloc (Nat.le_refl _) o)
theorem SeenH.kept {row : Option Nat} (h : SeenH w k n C) (hg : w.grownBy w' row) (hne : some k ≠ row) : SeenH w' k n C := by
  have hl := h.lt
  obtain ⟨cur, h0, h1⟩ := h
  exact ⟨cur, (hg.block k hl hne).trans h0, h1⟩
end
theorem mkH (n : Nat) (hn : n ≤ 288) : ∃ M : Array Value, M.size = n ∧ (∀ c, c < n → M[c]? = some (.bool false)) ∧ ∀ w, (Instr.makeSlice 100 (.int .i64 (n : Int)) (.int .i64 (n : Int))).run Tryd.prog w = .ok (.slice (some ⟨w.heap.size, 0, none⟩) n n) (w.alloc (.cells M 4)) := by
  obtain ⟨i0, hi, hz0, hz1, hz2⟩ := info_parts (show (Tryd.prog.info? 4).map (fun i => (i.zero, i.size, i.bytes)) = some (some (.bool false), 1, 1) by kernel_rfl)
  refine ⟨madeCells #[.bool false] n, size_madeCells _ _, fun c hc => ?_, fun w => ?_⟩
  · rw [← Array.getElem?_toList, toList_madeCells_one, List.getElem?_replicate, if_pos hc]
  · have h := run_make (P := Tryd.prog) w 100 4 i0 (.bool false) Tryd.underlying100 hi hz0 .i64 .i64 (n : Int) (n : Int) (by omega) (by omega) (by rw [hz2]; omega) (by omega)
    rw [hz1, Nat.mul_one, Int.toNat_natCast] at h
    exact h
/-- The numbers of the states of a list. -/
def cdW (m : Nat) (L : List Way) : List Nat := (stW L).map (cdH m)
theorem cdW_append (m : Nat) (L M : List Way) : cdW m (L ++ M) = cdW m L ++ cdW m M := by simp [cdW, stW_append]
theorem cdW_iff {gs : List Int} {A : List UInt8} {x0 y : Int × Int} {L : List Way} (h : WSt gs A x0 L) (hy : hsB gs y.1 y.2 = true) : cdH gs.length y ∈ cdW gs.length L ↔ y ∈ L.map Prod.fst := by
  constructor
  · intro hm
    obtain ⟨z, hz, e⟩ := List.mem_map.1 hm
    obtain ⟨t, ht, rfl⟩ := List.mem_map.1 hz
    rw [← cdH_inj (h.valid t ht) hy e]
    exact hz
  · intro hm; exact List.mem_map_of_mem hm
theorem cdH_int {gs : List Int} {y : Int × Int} (hy : hsB gs y.1 y.2 = true) : y.1 * (gs.length : Int) + y.2 = (cdH gs.length y : Int) := by
  obtain ⟨⟨a, b⟩, c, d⟩ := hsB_iff.1 hy
  obtain ⟨h, eh⟩ := Int.eq_ofNat_of_zero_le a
  obtain ⟨q, eq⟩ := Int.eq_ofNat_of_zero_le c
  unfold cdH
  rw [eh, eq]
  simp
theorem mul_in {gs : List Int} {y : Int × Int} (hn : gs.length ≤ 24) (hy : hsB gs y.1 y.2 = true) : 0 ≤ y.1 * (gs.length : Int) ∧ y.1 * (gs.length : Int) ≤ 264 := by
  obtain ⟨⟨a, b⟩, c, d⟩ := hsB_iff.1 hy
  constructor
  · exact Int.mul_nonneg a (by omega)
  · have h1 : y.1 * (gs.length : Int) ≤ 11 * (gs.length : Int) := Int.mul_le_mul_of_nonneg_right (by omega) (by omega)
    omega
end Go.Proofs.YtfddibdncniekaaDoor
