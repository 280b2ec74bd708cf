/- Chimes: rows drawn (l22DrawRows): words. -/
import Derived.Test.YtgaohmbgjjhdbaaRwR
import Derived.Test.YtgaohmbgjjhdbaaChH
import Derived.Test.YtgaohmbgjjhdbaaDrY
namespace Go.Proofs.Ytgaohmbgjjhdbaa
open Go.RowKit

theorem own_take {w : World} {base n c k size : Nat} {e : TypeId} {A : Option Addr} {xs : List Value} (h : w.ownsRow base e size (.slice A n c) n xs) (hk : k ≤ n) : w.ownsRow base e size (.slice A k c) k (xs.take (k * size)) := by
  obtain ⟨h1, h2⟩ := h
  have hm := Nat.mul_le_mul_right size hk
  rcases h2 with ⟨e1, _⟩ | ⟨g, cap, cur, e1, hb, hg, hc, hm', hs, ht⟩
  · injection e1 with e2 e3 e4
    subst e2 e3 e4
    obtain rfl : k = 0 := by omega
    exact ⟨by simp, .inl ⟨rfl, by simp⟩⟩
  · injection e1 with e2 e3 e4
    subst e2 e4
    refine ⟨by rw [List.length_take, h1]; exact Nat.min_eq_left hm, .inr ⟨g, _, cur, rfl, hb, hg, by omega, hm', hs, ?_⟩⟩
    rw [← ht, List.take_take, Nat.min_eq_left hm]
section
variable {w w' : World} {base m n k : Nat} {v v' u u' : Value} {L : Nat → List Int} {y : List Int}
theorem RowsAt.take {A : Option Addr} {c : Nat} (h : RowsAt w base (.slice A m c) m L) (hk : k ≤ m) : RowsAt w base (.slice A k c) k L := by
  obtain ⟨vs, ho, hu, hd⟩ := h
  have ho2 := own_take ho hk
  rw [Nat.mul_one] at ho2
  have hvl : vs.length = m := by have := ho.1; omega
  have old : ∀ i z, (vs.take k)[i]? = some z → i < k ∧ vs[i]? = some z := fun i z hz => by
    rw [List.getElem?_take] at hz
    split at hz
    · exact ⟨by assumption, hz⟩
    · cases hz
  refine ⟨vs.take k, ho2, fun i hi => ?_, fun i j x z hij hx hz => hd i j x z hij (old i x hx).2 (old j z hz).2⟩
  obtain ⟨x, h1, h2, h3⟩ := hu i (by omega)
  refine ⟨x, by rw [List.getElem?_take, if_pos hi]; exact h1, h2, fun b hb hb2 => h3 b hb ?_⟩
  cases A with
  | none => simp [Value.ownBlock] at hb2
  | some a => exact hb2
theorem RowsAt.drawn {g : Nat} (h : RowsAt w base v m L) (hg : w.grownBy w' (some g)) (hgb : g < base) : RowsAt w' base v m L := by
  obtain ⟨vs, ho, hu, hd⟩ := h
  have key : ∀ {e : TypeId} {x : Value} {q : Nat} {xs : List Value}, w.ownsRow base e 1 x q xs → w'.ownsRow base e 1 x q xs := fun {e x q xs} hx => hx.kept hg (by
    cases hb : x.ownBlock with
    | none => exact Or.inl rfl
    | some j => exact Or.inr (fun e => by have := (hx.lt j hb).1; cases e; omega))
  exact ⟨vs, key ho, fun i hi => let ⟨x, h1, h2, h3⟩ := hu i hi; ⟨x, h1, key h2, h3⟩, hd⟩
theorem sl_setFar (h : Sl w u y) {p : Addr} (hne : u.ownBlock ≠ some p.block) (x : Value) : Sl (w.setCell p x) u y :=
  SlC.keep h (by simp) fun b o _ hv => World.cell?_of_block (a := ⟨b, o, none⟩) (Below.heap_setCell w p x b (fun e => hne (by rw [hv, e])))
theorem sl_apart (h : Sl w u y) (hg : w.grownBy w' v.ownBlock) (ha : Ap u v) : Sl w' u y :=
  SlC.keep h hg.size fun b o hb hv => World.cell?_of_block (a := ⟨b, o, none⟩) (hg.block b hb (fun e => ha b hv e.symm))
/-- The first n lists of L. -/
def rl (n : Nat) (L : Nat → List Int) : List (List Int) := (List.range n).map L
theorem rl_length (n : Nat) (L : Nat → List Int) : (rl n L).length = n := by simp [rl]
theorem rl_at {n i : Nat} (L : Nat → List Int) (h : i < n) : rx (rl n L) i = L i := by simp [rx, rl, List.getD, h]
theorem rows_rd (h : RowsAt w base v n L) : RdR w v (rl n L) := by
  refine RdR.of_rows (base := base) ?_
  rw [rl_length]
  obtain ⟨vs, ho, hu, hd⟩ := h
  exact ⟨vs, ho, fun i hi => by rw [rl_at L hi]; exact hu i hi, hd⟩
theorem rows_cap {A : Option Addr} {c : Nat} (h : RowsAt w base (.slice A n c) n L) : n ≤ c ∧ c ≤ maxLen := by
  obtain ⟨vs, ho, _⟩ := h
  obtain ⟨A', c', e, h1, h2, _⟩ := SlC.of_own ho
  injection e with _ _ e3
  subst e3
  exact ⟨h1, h2⟩
/-- One of the rows is put anew. -/
theorem rows_set {g c at_ : Nat} (h : RowsAt w base (.slice (some ⟨g, 0, none⟩) n c) n L) (hu : Sl w u' y) (hne : u'.ownBlock ≠ some g) :
    RdR (w.setCell ⟨g, at_, none⟩ u') (.slice (some ⟨g, 0, none⟩) n c) (rl n fun i => if i = at_ then y else L i) := by
  obtain ⟨h1, h2⟩ := rows_cap h
  refine ⟨some ⟨g, 0, none⟩, c, by rw [rl_length], by rw [rl_length]; exact h1, h2, fun i hi => ?_⟩
  rw [rl_length] at hi
  rw [rl_at _ hi]
  obtain ⟨g', c', x, e, _, hg, hx, ho, ha⟩ := h.at_ hi
  injection e with e1 _ _
  injection e1 with e1
  injection e1 with e1 _ _
  subst e1
  refine ⟨g, 0, rfl, by simpa using hg, ?_⟩
  simp only [Nat.zero_add]
  by_cases e : i = at_
  · subst e
    exact ⟨u', World.cell?_setCell_same _ _ _ hx, by rw [if_pos rfl]; exact sl_setFar hu hne _⟩
  · rw [if_neg e]
    refine ⟨x, (World.cell?_setCell_other _ _ _ _ (fun h => e (by injection h with _ h _; exact h.symm))).trans hx, sl_setFar (Sl.of_own ho) (fun hb => ha g hb rfl) _⟩
/-- A row is put behind. -/
theorem rows_app {vs : List Value} (ho : w.ownsRow base 60 1 v n vs) (hv : ∀ i, i < n → ∃ u : Value, vs[i]? = some u ∧ w.ownsRow base 2 1 u (L i).length (I64 (L i)) ∧ Ap u v)
    (hu : Sl w u' y) (hne : Ap u' v) (ho' : w'.ownsRow base 60 1 v' (n + 1) (vs ++ [u'])) (hg : w.grownBy w' v.ownBlock) : RdR w' v' (rl (n + 1) fun i => if i = n then y else L i) := by
  obtain ⟨A, c, e, h1, h2, _⟩ := SlC.of_own ho'
  have hvl : vs.length = n := by have := ho.1; omega
  refine ⟨A, c, by rw [rl_length]; exact e, by rw [rl_length]; exact h1, h2, fun i hi => ?_⟩
  rw [rl_length] at hi
  rw [rl_at _ hi]
  obtain ⟨g, c', e', _⟩ := ho'.form (by omega)
  rw [e] at e'
  injection e' with e1 _ e3
  subst e1 e3 e
  refine ⟨g, 0, rfl, (ho'.lt g rfl).2, ?_⟩
  simp only [Nat.zero_add]
  by_cases hin : i = n
  · subst hin
    rw [if_pos rfl]
    exact ⟨u', (ho'.cellAt i (by omega)).trans (by rw [List.getElem?_append_right (by omega), hvl, Nat.sub_self]; rfl), sl_apart hu hg hne⟩
  · rw [if_neg hin]
    obtain ⟨x, k1, k2, k3⟩ := hv i (by omega)
    exact ⟨x, (ho'.cellAt i (by omega)).trans (by rw [List.getElem?_append_left (by omega)]; exact k1), sl_apart (Sl.of_own k2) hg k3⟩
end
/-- What a draw of rows leaves. -/
def RowPost (W w : World) (g : Nat) (vb : Value) (bs : List Int) (k : Nat) (e : Ending) (w' : World) : Prop :=
  ∃ (v : Value) (R : List (List Int)), e = .returned v ∧ RdR w' v R ∧ (R.length ≤ 13 ∧ ∀ i, i < R.length → (rx R i).length ≤ 6) ∧ Src W w' g vb bs k ∧ w.grownBy w' (some g)
theorem small_tot {R : List (List Int)} (h : R.length ≤ 13 ∧ ∀ i, i < R.length → (rx R i).length ≤ 6) : totR R ≤ 1000 := by
  have key : ∀ k, k ≤ R.length → sumTo R k ≤ 6 * k := by
    intro k
    induction k with
    | zero => intro _; simp [sumTo]
    | succ k ih =>
      intro hk
      have h1 := ih (by omega)
      have h2 := h.2 k (by omega)
      rw [sumTo]; omega
  have := key R.length (Nat.le_refl _)
  have := h.1
  rw [totR]; omega
end Go.Proofs.Ytgaohmbgjjhdbaa
