/- An argument that is a slice of slices of numbers, for a law's row. -/
import Derived.Test.YtgaohmbgjjhdbaaRow
import Derived.Test.YtgaohmbgjjhdbaaRow2
import Derived.Test.YtgaohmbgjjhdbaaRwR
namespace Go.Proofs.Ytgaohmbgjjhdbaa
open Go.ChangeShapes Go.WideShapes Go.ChangeAt Go.RowKit Go.Deep

theorem trod_rows {H : Type} {enc : TypeId × Value → H} {P : Program} {w : World} {t e e2 : TypeId} {fuel : Nat} {v : Value} {x : DataW H × List MemPlace}
    (ht : P.underlying t = some (.slice e)) (he : P.underlying e = some (.slice e2)) (he2 : P.underlying e2 = some (.int .i64)) (hC : P.cellsOf e = 1) (hC2 : P.cellsOf e2 = 1)
    (h : DataW.trod enc P w 0 (fun _ => true) true fuel t [v] = some x) (hlt : ∀ p ∈ x.2, p.block < w.heap.size) : ∃ R, RdR w v R ∧ True := by
  rcases open_slice ht h with h0 | ⟨a, len, cap, m, n, D, Pl, hcs, hb, hl, hm, hmm, hx, hi⟩
  · obtain ⟨hcs, _⟩ := h0
    obtain rfl : v = .slice none 0 0 := by simpa using hcs
    exact ⟨[], ⟨none, 0, rfl, Nat.le_refl _, Nat.zero_le _, fun i hi => absurd hi (by simp)⟩, trivial⟩
  · obtain rfl : v = .slice (some a) len cap := by simpa using hcs
    simp only [if_true] at hmm
    subst hmm
    have key : ∀ i, i < len → ∃ xs : List Int, ∃ u, w.cell? (a.add i) = some u ∧ Sl w u xs := by
      intro i hi'
      obtain ⟨cs', hc, ht'⟩ := hi i (by omega)
      rw [hC] at hc
      obtain ⟨_, hcl, hat⟩ := World.cells?_some hc
      obtain ⟨u, rfl⟩ : ∃ u, cs' = [u] := by
        match cs', hcl with
        | [u], _ => exact ⟨u, rfl⟩
      have hc0 := hat 0 (by omega)
      obtain ⟨xs, hs, _⟩ := trod_sl he he2 hC2 ht' (fun p hp => hlt p (by rw [hx]; exact List.mem_append_right _ (List.mem_flatMap.2 ⟨i, List.mem_range.2 (by omega), hp⟩)))
      exact ⟨xs, u, by simpa [Addr.add] using hc0, hs⟩
    obtain ⟨R, hRl, hR⟩ := list_of [] key
    refine ⟨R, ⟨some a, m, by rw [hRl], by omega, hm, fun i hi' => ?_⟩, trivial⟩
    obtain ⟨u, hu, hs⟩ := hR i (by omega)
    obtain ⟨b, o, s⟩ := a
    obtain ⟨u0, hu0, _⟩ := hR 0 (by omega)
    have hsn : s = none := by simpa [Addr.add] using World.cell?_spot hu0
    subst hsn
    refine ⟨b, o, rfl, hlt (.cell b o) ?_, u, by rw [Addr.add_lit] at hu; exact hu, hs⟩
    rw [hx]
    exact List.mem_append_left _ (MemPlace.mem_row.2 ⟨0, by rw [hC]; omega, by simp⟩)
end Go.Proofs.Ytgaohmbgjjhdbaa
