/- Hands: words on rows of ways in memory: three cells each. No program in sight. -/
import Derived.Test.YtfddibdncniekaaDoorHnG
import Derived.Test.YtfddibdncniekaaDoorBx
namespace Go.Proofs.YtfddibdncniekaaDoor
open Go.RowKit

/-- The cells of a list of ways. -/
def W64 : List Way → List Value
  | [] => []
  | x :: L => .int .i64 x.1.1 :: .int .i64 x.1.2 :: .string x.2 :: W64 L
theorem W64_length (L : List Way) : (W64 L).length = L.length * 3 := by
  induction L with
  | nil => rfl
  | cons x L ih => simp [W64, ih]; omega
theorem W64_append (L M : List Way) : W64 (L ++ M) = W64 L ++ W64 M := by
  induction L with
  | nil => rfl
  | cons x L ih => simp [W64, ih]
theorem W64_get {L : List Way} {k : Nat} (h : k < L.length) : (W64 L)[k * 3]? = some (.int .i64 (pw L k).1.1) ∧ (W64 L)[k * 3 + 1]? = some (.int .i64 (pw L k).1.2) ∧ (W64 L)[k * 3 + 2]? = some (.string (pw L k).2) := by
  induction L generalizing k with
  | nil => simp at h
  | cons x L ih =>
    cases k with
    | zero => simp [W64, pw]
    | succ k =>
      have hk : k < L.length := by simpa using h
      have e := ih hk
      have e2 : (k + 1) * 3 = k * 3 + 1 + 1 + 1 := by omega
      have e3 : pw (x :: L) (k + 1) = pw L k := by simp [pw]
      rw [e2, e3]
      simpa [W64] using e
theorem W64_one (L : List Way) : ∀ u ∈ W64 L, u.oneCell' = true := by
  induction L with
  | nil => intro u hu; simp [W64] at hu
  | cons x L ih =>
    intro u hu
    simp only [W64, List.mem_cons] at hu
    rcases hu with rfl | rfl | rfl | hu
    · rfl
    · rfl
    · rfl
    · exact ih u hu
/-- What a walk wants of an owned row of ways. -/
theorem own_way {w : World} {base : Nat} {e : TypeId} {v : Value} {L : List Way} (h : w.ownsRow base e 3 v L.length (W64 L)) (hp : 0 < L.length) :
    ∃ b c, v = .slice (some ⟨b, 0, none⟩) L.length c ∧ base ≤ b ∧ b < w.heap.size ∧ L.length ≤ c ∧ c ≤ maxLen ∧
      Hid (∀ k, k < L.length → w.cell? ⟨b, k * 3, none⟩ = some (.int .i64 (pw L k).1.1) ∧ w.cell? ⟨b, k * 3 + 1, none⟩ = some (.int .i64 (pw L k).1.2) ∧ w.cell? ⟨b, k * 3 + 2, none⟩ = some (.string (pw L k).2)) := by
  have hl := h.lt
  obtain ⟨_, h0 | ⟨g, cap, cur, rfl, h1, h2, h3, h4, h5, h6⟩⟩ := h
  · omega
  · refine ⟨g, cap, rfl, h1, (hl g rfl).2, h3, h4, fun k hk => ?_⟩
    obtain ⟨e1, e2, e3⟩ := W64_get hk
    rw [← h6] at e1 e2 e3
    have hc : ∀ i x, (cur.toList.take (L.length * 3))[i]? = some x → w.cell? ⟨g, i, none⟩ = some x := fun i x hx => by
      rw [cell_of_row w g i cur e (0, 0) h2]
      rw [List.getElem?_take] at hx
      split at hx
      · simpa using hx
      · cases hx
    exact ⟨hc _ _ e1, hc _ _ e2, hc _ _ e3⟩
/-- A way is put behind a row of ways that the call owns. -/
theorem wpList_appW {w : World} {ops : Array Oper} {rest : List Oper} {o : Oper} {a : Act} {Q : Exit → Act → World → Prop} (hgd : o.guard = none) (s x : Operand)
    (ho : o.op = .call { callee := .builtin .append, args := #[s, x], argTypes := #[90, 90] })
    (base : Nat) (v : Value) (L : List Way) (hs : a.eval s = v) (hown : w.ownsRow base 93 3 v L.length (W64 L)) (y : Way)
    (g : Nat) (hx : a.eval x = .slice (some ⟨g, 0, none⟩) 1 1) (hg : w.heap.size = g) (hn : L.length ≤ 134217728) (hbase : base ≤ w.heap.size)
    (h : ∀ v' w', w'.ownsRow base 93 3 v' (L ++ [y]).length (W64 (L ++ [y])) → Below base w w' → w.grownBy w' v.ownBlock → (v'.ownBlock = v.ownBlock ∨ v'.ownBlock = some (w.heap.size + 1)) → wpList Tryd.prog ops Q rest (a.put o.dst v') w') :
    wpList Tryd.prog ops Q (o :: rest) a (w.alloc (.cells #[.int .i64 y.1.1, .int .i64 y.1.2, .string y.2] 93)) := by
  subst hg
  obtain ⟨i0, hi, hz0, hz1, hz2⟩ := info_parts (show (Tryd.prog.info? 93).map (fun i => (i.zero, i.size, i.bytes)) = some (some (.agg #[.int .i64 0, .int .i64 0, .string ⟨#[]⟩]), 3, 32) by kernel_rfl)
  exact wpList_app hgd s x _ ho Tryd.underlying90 hi hz0 hz1 hz2 rfl (by decide) (by decide) base v L.length (W64 L) hs hown [.int .i64 y.1.1, .int .i64 y.1.2, .string y.2] rfl (by intro u hu; simp at hu; rcases hu with rfl | rfl | rfl <;> rfl) hx hn hbase
    (fun v' w' h1 h2 h3 h4 => h v' w' (by rw [W64_append]; simpa [W64] using h1) h2 h3 h4)
end Go.Proofs.YtfddibdncniekaaDoor
