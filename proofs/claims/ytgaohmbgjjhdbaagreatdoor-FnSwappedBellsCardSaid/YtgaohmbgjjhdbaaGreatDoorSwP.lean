/- Chimes: plain laws of bells that are swapped and swapped back. -/
import Derived.Test.YtgaohmbgjjhdbaaGreatDoorChX
namespace Go.Proofs.YtgaohmbgjjhdbaaGreatDoor
open Go.RowKit

theorem srtP_allS (qs : List (Int × Int)) : (srtP qs qs.length).Perm qs := by
  have := srtP_perm qs qs.length (Nat.le_refl _)
  rwa [List.take_length] at this
/-- Pins of a valid barrel rise. -/
theorem pins_riseS {st bl : Int} {ps : List (Int × Int)} (h : PinsTo st bl ps ps.length) {i : Nat} : ∀ {j : Nat}, i < j → j < ps.length → (pi ps i).1 < (pi ps j).1 ∨ ((pi ps i).1 = (pi ps j).1 ∧ (pi ps i).2 < (pi ps j).2)
  | 0, h1, _ => absurd h1 (Nat.not_lt_zero _)
  | j + 1, h1, h2 => by
    have h3 := (h (j + 1) h2).2.2 (by omega)
    rw [Nat.add_sub_cancel] at h3
    have h4 : (pi ps j).1 < (pi ps (j + 1)).1 ∨ ((pi ps j).1 = (pi ps (j + 1)).1 ∧ (pi ps j).2 < (pi ps (j + 1)).2) := by simpa [befP] using h3
    rcases Nat.lt_or_ge i j with h5 | h5
    · have := pins_riseS h h5 (by omega)
      omega
    · obtain rfl : i = j := by omega
      exact h4
theorem pins_leS {st bl : Int} {ps : List (Int × Int)} (h : PinsTo st bl ps ps.length) : ps.Pairwise LeP := by
  rw [List.pairwise_iff_getElem]
  intro i j hi hj hij
  have := pins_riseS h hij hj
  rw [pi_eq hi, pi_eq hj] at this
  unfold LeP befP; simp; omega
theorem pins_neS {st bl : Int} {ps : List (Int × Int)} (h : PinsTo st bl ps ps.length) : ps.Pairwise (fun a b => ¬ (a.1 = b.1 ∧ a.2 = b.2)) := by
  rw [List.pairwise_iff_getElem]
  intro i j hi hj hij
  have := pins_riseS h hij hj
  rw [pi_eq hi, pi_eq hj] at this
  omega
theorem pins_memS {st bl : Int} {ps : List (Int × Int)} (h : PinsTo st bl ps ps.length) {p : Int × Int} (hp : p ∈ ps) : (0 ≤ p.1 ∧ p.1 < st) ∧ 0 ≤ p.2 ∧ p.2 < bl := by
  obtain ⟨k, hk, rfl⟩ := mem_pi hp
  obtain ⟨h1, h2, _⟩ := h k hk
  have := inB_iff.1 h1
  have := inB_iff.1 h2
  omega
theorem valid_ofS {st bl : Int} {qs : List (Int × Int)} (h1 : 1 ≤ st ∧ st ≤ 64) (h2 : 1 ≤ bl ∧ bl ≤ 8) (h3 : qs.length ≤ 128) (hs : qs.Pairwise LeP) (hn : qs.Pairwise (fun a b => ¬ (a.1 = b.1 ∧ a.2 = b.2)))
    (hb : ∀ p ∈ qs, (0 ≤ p.1 ∧ p.1 < st) ∧ 0 ≤ p.2 ∧ p.2 < bl) : brB st bl qs = true := by
  refine brB_iff.2 ⟨h1, h2, h3, fun j hj => ?_⟩
  have hm := hb _ (pi_mem hj)
  refine ⟨inB_t (by omega) (by omega), inB_t (by omega) (by omega), fun h0 => ?_⟩
  have a := List.pairwise_iff_getElem.1 hs (j - 1) j (by omega) hj (by omega)
  have c := List.pairwise_iff_getElem.1 hn (j - 1) j (by omega) hj (by omega)
  rw [pi_eq hj, pi_eq (show j - 1 < qs.length by omega)]
  unfold LeP befP at a
  unfold befP
  simp at a ⊢
  omega
theorem nodup_ordS {b : List Int} (h : ordP b) : b.Nodup := by
  have h1 : (rngI b.length).Nodup := by
    rw [List.nodup_iff_pairwise_ne]
    rw [List.pairwise_iff_getElem]
    intro i j hi hj hij
    simp [rngI]; omega
  exact (ordP_perm h).nodup_iff.2 h1
/-- An order's numbers: each of them once. -/
theorem ord_at {os : List Int} (h : ordP os) {k : Nat} (hk : k < os.length) : ∃ j : Nat, j < os.length ∧ ix os k = (j : Int) := by
  have := mem_rngI.1 ((ordP_perm h).mem_iff.1 (ix_mem hk))
  exact ⟨(ix os k).toNat, by omega, by omega⟩
theorem ord_ne {os : List Int} (h : ordP os) {i j : Nat} (hi : i < os.length) (hj : j < os.length) (hij : i ≠ j) : ix os i ≠ ix os j := by
  have hn := List.pairwise_iff_getElem.1 (List.nodup_iff_pairwise_ne.1 (nodup_ordS h))
  rw [ix_eq hi, ix_eq hj]
  rcases Nat.lt_or_ge i j with h1 | h1
  · exact hn i j hi hj h1
  · exact fun e => hn j i hj hi (by omega) e.symm
/-- The first i places of an order are written back. -/
def BkTo (os bk : List Int) (i : Nat) : Prop := bk.length = os.length ∧ ∀ k, k < i → ix bk (ix os k).toNat = (k : Int)
theorem ix_set_same {xs : List Int} {j : Nat} (h : j < xs.length) (x : Int) : ix (xs.set j x) j = x := by simp [ix, List.getD, h]
theorem ix_set_other {xs : List Int} {i j : Nat} (h : i ≠ j) (x : Int) : ix (xs.set j x) i = ix xs i := by simp [ix, List.getD, List.getElem?_set_ne (Ne.symm h)]
theorem BkTo.succ {os bk : List Int} {i : Nat} (h : BkTo os bk i) (ho : ordP os) (hi : i < os.length) : BkTo os (bk.set (ix os i).toNat (i : Int)) (i + 1) := by
  refine ⟨by rw [List.length_set]; exact h.1, fun k hk => ?_⟩
  obtain ⟨j, hj, ej⟩ := ord_at ho hi
  rcases Nat.lt_or_ge k i with h1 | h1
  · obtain ⟨q, hq, eq⟩ := ord_at ho (show k < os.length by omega)
    have hne := ord_ne ho (show k < os.length by omega) hi (by omega)
    rw [ix_set_other (by rw [ej, eq]; omega)]
    exact h.2 k h1
  · obtain rfl : k = i := by omega
    exact ix_set_same (by rw [ej, h.1]; simpa using hj) _
theorem bk_ord {os bk : List Int} {bl : Int} (h : BkTo os bk os.length) (hf : ordB os bl = true) : ordB bk bl = true := by
  obtain ⟨h1, h2⟩ := ordB_iff.1 hf
  refine ordB_iff.2 ⟨by rw [h.1]; exact h1, fun k hk => ?_⟩
  rw [h.1] at hk
  obtain ⟨j, hj, ej⟩ := ord_at h2 hk
  have := h.2 k hk
  rw [← this]
  exact ix_mem (by rw [ej, h.1]; simpa using hj)
section
variable {st bl : Int} {ps : List (Int × Int)} {os bk : List Int}
theorem swp_at (hs : brB st bl ps = true) (hf : ordB os bl = true) {p : Int × Int} (hp : p ∈ ps) : ∃ k j : Nat, k < os.length ∧ j < os.length ∧ p.2 = (k : Int) ∧ ix os k = (j : Int) ∧ swpP os p = (p.1, (j : Int)) := by
  obtain ⟨_, _, _, hP⟩ := brB_iff.1 hs
  obtain ⟨h1, h2⟩ := ordB_iff.1 hf
  have hm := pins_memS hP hp
  obtain ⟨k, hk⟩ := Int.eq_ofNat_of_zero_le (show 0 ≤ p.2 by omega)
  have hk2 : k < os.length := by omega
  obtain ⟨j, hj, ej⟩ := ord_at h2 hk2
  exact ⟨k, j, hk2, hj, hk, ej, by rw [swpP, hk, Int.toNat_natCast, ej]⟩
theorem swap_valid (hs : brB st bl ps = true) (hf : ordB os bl = true) : brB st bl (srtP (ps.map (swpP os)) ps.length) = true := by
  obtain ⟨h1, h2, h3, hP⟩ := brB_iff.1 hs
  obtain ⟨hl, ho⟩ := ordB_iff.1 hf
  have hperm := srtP_allS (ps.map (swpP os))
  rw [List.length_map] at hperm
  refine valid_ofS h1 h2 (by rw [srtP_length]; exact h3) (srtP_sorted _ _) ?_ ?_
  · have hp : (ps.map (swpP os)).Pairwise (fun a b => ¬ (a.1 = b.1 ∧ a.2 = b.2)) := by
      rw [List.pairwise_map]
      refine List.Pairwise.imp_of_mem ?_ (pins_neS hP)
      intro a b ha hb hne he
      obtain ⟨k, j, hk, hj, e1, e2, e3⟩ := swp_at hs hf ha
      obtain ⟨k', j', hk', hj', e1', e2', e3'⟩ := swp_at hs hf hb
      rw [e3, e3'] at he
      refine hne ⟨he.1, ?_⟩
      by_cases hkk : k = k'
      · rw [e1, e1', hkk]
      · have := ord_ne ho hk hk' hkk
        rw [e2, e2'] at this
        exact absurd he.2 this
    exact (hperm.pairwise_iff (fun {a b} h h' => h ⟨h'.1.symm, h'.2.symm⟩)).2 hp
  · intro p hp
    obtain ⟨q, hq, rfl⟩ := List.mem_map.1 (hperm.mem_iff.1 hp)
    have hm := pins_memS hP hq
    obtain ⟨k, j, hk, hj, e1, e2, e3⟩ := swp_at hs hf hq
    rw [e3]
    simp only
    omega
/-- Swapped and swapped back. -/
theorem swap_back (hs : brB st bl ps = true) (hf : ordB os bl = true) (hb : BkTo os bk os.length) :
    srtP ((srtP (ps.map (swpP os)) ps.length).map (swpP bk)) (srtP (ps.map (swpP os)) ps.length).length = ps := by
  obtain ⟨h1, h2, h3, hP⟩ := brB_iff.1 hs
  have hperm := srtP_allS (ps.map (swpP os))
  rw [List.length_map] at hperm
  have hp2 := srtP_allS ((srtP (ps.map (swpP os)) ps.length).map (swpP bk))
  rw [List.length_map] at hp2
  have e : (ps.map (swpP os)).map (swpP bk) = ps := by
    rw [List.map_map]
    conv => rhs; rw [← List.map_id ps]
    refine List.map_congr_left fun p hp => ?_
    obtain ⟨k, j, hk, hj, e1, e2, e3⟩ := swp_at hs hf hp
    have hbk := hb.2 k hk
    rw [e2] at hbk
    simp only [Function.comp, id]
    rw [e3, swpP]
    simp only
    rw [hbk, ← e1]
  refine sorted_one (hp2.trans ((hperm.map _).trans (by rw [e]))) (srtP_sorted _ _) (pins_leS hP)
end
end Go.Proofs.YtgaohmbgjjhdbaaGreatDoor
