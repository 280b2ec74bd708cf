/- Chimes: a turned barrel: what it plays, and how close its pins are. Plain laws. -/
import Derived.Test.YtgaohmbgjjhdbaaChU
import Derived.Test.YtgaohmbgjjhdbaaChC
import Derived.Test.YtgaohmbgjjhdbaaChD
namespace Go.Proofs.Ytgaohmbgjjhdbaa
open Go.RowKit

/-- Turned pins, in order. -/
def trnS (st b : Int) (ps : List (Int × Int)) : List (Int × Int) := srtP (ps.map (trnP st b)) ps.length
theorem trnS_length (st b : Int) (ps : List (Int × Int)) : (trnS st b ps).length = ps.length := srtP_length _ _
theorem srtP_all (qs : List (Int × Int)) : (srtP qs qs.length).Perm qs := by
  have := srtP_perm qs qs.length (Nat.le_refl _)
  rwa [List.take_length] at this
theorem trnS_perm (st b : Int) (ps : List (Int × Int)) : (trnS st b ps).Perm (ps.map (trnP st b)) := by
  have := srtP_all (ps.map (trnP st b))
  rwa [List.length_map] at this
/-- Pins of a valid barrel rise. -/
theorem pins_le {st bl : Int} {ps : List (Int × Int)} (h : PinsTo st bl ps ps.length) : ps.Pairwise LeP := by
  rw [List.pairwise_iff_getElem]
  intro i j hi hj hij
  have := pins_rise h hij hj
  rw [pi_eq hi, pi_eq hj] at this
  unfold LeP befP; simp; omega
theorem pins_ne {st bl : Int} {ps : List (Int × Int)} (h : PinsTo st bl ps ps.length) : ps.Pairwise (fun a b => ¬ (a.1 = b.1 ∧ a.2 = b.2)) := by
  rw [List.pairwise_iff_getElem]
  intro i j hi hj hij
  have := pins_rise h hij hj
  rw [pi_eq hi, pi_eq hj] at this
  omega
theorem pins_mem {st bl : Int} {ps : List (Int × Int)} (h : PinsTo st bl ps ps.length) {p : Int × Int} (hp : p ∈ ps) : (0 ≤ p.1 ∧ p.1 < st) ∧ 0 ≤ p.2 ∧ p.2 < bl := by
  obtain ⟨k, hk, rfl⟩ := mem_pi hp
  have := pins_in h hk
  omega
theorem mod_inj {x y b st : Int} (hx : 0 ≤ x ∧ x < st) (hy : 0 ≤ y ∧ y < st) (h : (x + b) % st = (y + b) % st) : x = y := by
  have h1 := Int.emod_emod_of_dvd (x + b - b) (Int.dvd_refl st)
  have h2 : (x + b - b) % st = (y + b - b) % st := by rw [Int.sub_emod, h, ← Int.sub_emod]
  rw [Int.add_sub_cancel, Int.add_sub_cancel, Int.emod_eq_of_lt hx.1 hx.2, Int.emod_eq_of_lt hy.1 hy.2] at h2
  exact h2
/-- Sorted pins that no two of which are alike make a valid barrel. -/
theorem valid_of {st bl : Int} {qs : List (Int × Int)} (h1 : 1 ≤ st ∧ st ≤ 64) (h2 : 1 ≤ bl ∧ bl ≤ 8) (h3 : qs.length ≤ 128) (hs : qs.Pairwise LeP) (hn : qs.Pairwise (fun a b => ¬ (a.1 = b.1 ∧ a.2 = b.2)))
    (hb : ∀ p ∈ qs, (0 ≤ p.1 ∧ p.1 < st) ∧ 0 ≤ p.2 ∧ p.2 < bl) : brB st bl qs = true := by
  refine brB_iff.2 ⟨h1, h2, h3, fun j hj => ?_⟩
  have hm := hb _ (pi_mem hj)
  refine ⟨inB_t (by omega) (by omega), inB_t (by omega) (by omega), fun h0 => ?_⟩
  have a := List.pairwise_iff_getElem.1 hs (j - 1) j (by omega) hj (by omega)
  have c := List.pairwise_iff_getElem.1 hn (j - 1) j (by omega) hj (by omega)
  rw [pi_eq hj, pi_eq (show j - 1 < qs.length by omega)]
  unfold LeP befP at a
  unfold befP
  simp at a ⊢
  omega
theorem trnS_valid {st bl b : Int} {ps : List (Int × Int)} (h : brB st bl ps = true) : brB st bl (trnS st b ps) = true := by
  obtain ⟨h1, h2, h3, h4⟩ := brB_iff.1 h
  refine valid_of h1 h2 (by rw [trnS_length]; exact h3) (srtP_sorted _ _) ?_ ?_
  · have hp : (ps.map (trnP st b)).Pairwise (fun a b => ¬ (a.1 = b.1 ∧ a.2 = b.2)) := by
      rw [List.pairwise_map]
      refine (List.Pairwise.and_mem.1 (pins_ne h4)).imp ?_
      rintro x y ⟨hx, hy, hne⟩ ⟨e1, e2⟩
      exact hne ⟨mod_inj (pins_mem h4 hx).1 (pins_mem h4 hy).1 e1, e2⟩
    exact ((trnS_perm st b ps).symm.pairwise_iff (fun {a b} (h : ¬ (a.1 = b.1 ∧ a.2 = b.2)) => fun e => h ⟨e.1.symm, e.2.symm⟩)).1 hp
  · intro p hp
    obtain ⟨q, hq, rfl⟩ := List.mem_map.1 ((trnS_perm st b ps).mem_iff.1 hp)
    have := pins_mem h4 hq
    exact ⟨⟨Int.emod_nonneg _ (by omega), Int.emod_lt_of_pos _ (by omega)⟩, this.2⟩
theorem take_succ_pi {ps : List (Int × Int)} {k : Nat} (h : k < ps.length) : ps.take (k + 1) = ps.take k ++ [pi ps k] := by
  rw [pi_eq h]; exact List.take_succ_eq_append_getElem h
theorem bA_filter (ps : List (Int × Int)) (s : Nat) : ∀ k, k ≤ ps.length → bA ps s k = ((ps.take k).filter (fun p => decide (p.1 = (s : Int)))).map Prod.snd
  | 0, _ => by simp [bA]
  | k + 1, h => by
    rw [bA, take_succ_pi (by omega), List.filter_append, List.map_append, bA_filter ps s k (by omega)]
    split
    · rename_i h1; simp [List.filter, h1]
    · rename_i h1; simp [List.filter, h1]
theorem bA_all (ps : List (Int × Int)) (s : Nat) : bA ps s ps.length = (ps.filter (fun p => decide (p.1 = (s : Int)))).map Prod.snd := by
  rw [bA_filter ps s _ (Nat.le_refl _), List.take_length]
theorem bells_sorted {ps : List (Int × Int)} (h : ps.Pairwise LeP) (s : Nat) : (bA ps s ps.length).Pairwise (fun a b => a ≤ b) := by
  rw [bA_all, List.pairwise_map]
  refine (List.Pairwise.and_mem.1 (h.sublist (List.filter_sublist))).imp ?_
  rintro x y ⟨hx, hy, hle⟩
  have h1 := (List.mem_filter.1 hx).2
  have h2 := (List.mem_filter.1 hy).2
  unfold LeP befP at hle
  simp at h1 h2 hle
  omega
/-- The bells of a step are those of the step that it is turned to. -/
theorem bells_turn {st bl b : Int} {ps : List (Int × Int)} (h : brB st bl ps = true) {s s' : Nat} (hs : (s : Int) < st) (hs' : (s' : Int) = ((s : Int) + b) % st) :
    bA (trnS st b ps) s' (trnS st b ps).length = bA ps s ps.length := by
  obtain ⟨h1, h2, h3, h4⟩ := brB_iff.1 h
  have p1 : (bA (trnS st b ps) s' (trnS st b ps).length).Perm (bA ps s ps.length) := by
    rw [bA_all, bA_all]
    have q1 := ((trnS_perm st b ps).filter (fun p => decide (p.1 = (s' : Int)))).map Prod.snd
    refine q1.trans ?_
    rw [List.filter_map, List.map_map]
    have e : ps.filter ((fun p => decide (p.1 = (s' : Int))) ∘ trnP st b) = ps.filter (fun p => decide (p.1 = (s : Int))) := by
      apply List.filter_congr
      intro p hp
      have hm := pins_mem h4 hp
      simp only [Function.comp, trnP, hs']
      rw [decide_eq_decide]
      exact ⟨fun e => mod_inj hm.1 ⟨by omega, hs⟩ e, fun e => by rw [e]⟩
    rw [e]
    exact List.Perm.refl _
  exact p1.eq_of_pairwise (le := fun a b => a ≤ b) (fun a b _ _ h1 h2 => by omega) (bells_sorted (srtP_sorted _ _) _) (bells_sorted (pins_le h4) _)
theorem plA_turn {bl b f : Int} {ps : List (Int × Int)} {S : Nat} (h : brB (S : Int) bl ps = true) : ∀ t, plA (trnS S b ps) S ((f + b) % S) t = plA ps S f t
  | 0 => rfl
  | t + 1 => by
    obtain ⟨⟨h1, _⟩, _⟩ := brB_iff.1 h
    have hS : (S : Int) ≠ 0 := by omega
    have e0 : ∀ (f : Int) (t : Nat), ((sAt S f t : Nat) : Int) = (f + (t : Int)) % (S : Int) := fun f t => by
      unfold sAt; have := Int.emod_nonneg (f + (t : Int)) hS; omega
    have e1 : ((sAt S f t : Nat) : Int) < (S : Int) := by rw [e0]; exact Int.emod_lt_of_pos _ (by omega)
    rw [plA, plA, plA_turn h t, bells_turn h e1 (by rw [e0, e0, Int.emod_add_emod, Int.emod_add_emod]; congr 1; omega)]
def sumN (g : Nat → Nat) : Nat → Nat
  | 0 => 0
  | n + 1 => sumN g n + g n
theorem sumN_add (g h : Nat → Nat) : ∀ n, sumN (fun t => g t + h t) n = sumN g n + sumN h n
  | 0 => rfl
  | n + 1 => by rw [sumN, sumN, sumN, sumN_add g h n]; omega
theorem sumN_congr {g h : Nat → Nat} : ∀ n, (∀ t, t < n → g t = h t) → sumN g n = sumN h n
  | 0, _ => rfl
  | n + 1, e => by rw [sumN, sumN, sumN_congr n (fun t ht => e t (by omega)), e n (by omega)]
theorem sumN_hit (t0 : Nat) : ∀ n, sumN (fun t => if t = t0 then 1 else 0) n = if t0 < n then 1 else 0
  | 0 => by simp [sumN]
  | n + 1 => by
    rw [sumN, sumN_hit t0 n]
    by_cases h1 : t0 < n
    · rw [if_pos h1, if_neg (by omega), if_pos (by omega)]
    · by_cases h2 : n = t0
      · rw [if_neg h1, if_pos h2, if_pos (by omega)]
      · rw [if_neg h1, if_neg h2, if_neg (by omega)]
theorem hit_iff {S s t : Nat} {f : Int} (hs : s < S) (ht : t < S) : s = sAt S f t ↔ t = (((s : Int) - f) % (S : Int)).toNat := by
  have hS : (S : Int) ≠ 0 := by omega
  have n1 := Int.emod_nonneg (f + (t : Int)) hS
  have n2 := Int.emod_nonneg ((s : Int) - f) hS
  unfold sAt
  constructor
  · intro e
    have e1 : (s : Int) = (f + (t : Int)) % (S : Int) := by omega
    have e2 : ((s : Int) - f) % (S : Int) = (t : Int) := by
      rw [e1, Int.sub_emod, Int.emod_emod_of_dvd _ (Int.dvd_refl _), ← Int.sub_emod, show f + (t : Int) - f = (t : Int) by omega, Int.emod_eq_of_lt (by omega) (by omega)]
    omega
  · intro e
    have e1 : (t : Int) = ((s : Int) - f) % (S : Int) := by omega
    have e2 : (f + (t : Int)) % (S : Int) = (s : Int) := by
      rw [e1, Int.add_emod, Int.emod_emod_of_dvd _ (Int.dvd_refl _), ← Int.add_emod]
      have e3 : f + ((s : Int) - f) = (s : Int) := by omega
      rw [e3, Int.emod_eq_of_lt (by omega) (by omega)]
    omega
/-- In a whole turn every pin is played once. -/
theorem plA_count {bl f : Int} {ps : List (Int × Int)} {S : Nat} (h : brB (S : Int) bl ps = true) : (plA ps S f S).length = ps.length := by
  obtain ⟨⟨h1, _⟩, _, _, h4⟩ := brB_iff.1 h
  have e1 : ∀ n, (plA ps S f n).length = sumN (fun t => (bA ps (sAt S f t) ps.length).length) n := by
    intro n
    induction n with
    | zero => rfl
    | succ n ih => rw [plA, List.length_append, ih, sumN]; simp [plX]
  have e2 : ∀ k, k ≤ ps.length → sumN (fun t => (bA ps (sAt S f t) k).length) S = k := by
    intro k hk
    induction k with
    | zero =>
      have : ∀ n, sumN (fun t => (bA ps (sAt S f t) 0).length) n = 0 := by
        intro n
        induction n with
        | zero => rfl
        | succ n ih => rw [sumN, ih]; rfl
      exact this S
    | succ k ih =>
      have hin := pins_in h4 (i := k) (by omega)
      obtain ⟨s, hs⟩ : ∃ s : Nat, (pi ps k).1 = (s : Int) := ⟨(pi ps k).1.toNat, by omega⟩
      have hsS : s < S := by omega
      have hn := Int.emod_nonneg ((s : Int) - f) (show (S : Int) ≠ 0 by omega)
      have hlt := Int.emod_lt_of_pos ((s : Int) - f) (show (0 : Int) < (S : Int) by omega)
      have e3 : sumN (fun t => (bA ps (sAt S f t) (k + 1)).length) S = sumN (fun t => (bA ps (sAt S f t) k).length + if t = (((s : Int) - f) % (S : Int)).toNat then 1 else 0) S := by
        apply sumN_congr
        intro t ht
        rw [bA, hs]
        by_cases hc : s = sAt S f t
        · rw [if_pos (by omega), if_pos ((hit_iff hsS ht).1 hc)]; simp
        · rw [if_neg (by omega), if_neg (fun e => hc ((hit_iff hsS ht).2 e))]; simp
      rw [e3, sumN_add, ih (by omega), sumN_hit, if_pos (by omega)]
  rw [e1, e2 _ (Nat.le_refl _)]
def PairD (st : Int) (ps : List (Int × Int)) (d : Int) : Prop := ∃ p q, p ∈ ps ∧ q ∈ ps ∧ p.2 = q.2 ∧ ¬ p.1 = q.1 ∧ (q.1 - p.1) % st = d
theorem cin_facts (st : Int) (ps : List (Int × Int)) (p : Int × Int) (a : Int) : ∀ k, k ≤ ps.length → cin st ps p a k ≤ a ∧ (∀ q ∈ ps.take k, p.2 = q.2 → ¬ p.1 = q.1 → cin st ps p a k ≤ (q.1 - p.1) % st) ∧
    (cin st ps p a k = a ∨ ∃ q ∈ ps, p.2 = q.2 ∧ ¬ p.1 = q.1 ∧ (q.1 - p.1) % st = cin st ps p a k)
  | 0, _ => ⟨Int.le_refl _, fun q hq => by simp at hq, Or.inl rfl⟩
  | k + 1, h => by
    obtain ⟨h1, h2, h3⟩ := cin_facts st ps p a k (by omega)
    rw [cin, cstep]
    by_cases hc : p.2 = (pi ps k).2 ∧ ¬ p.1 = (pi ps k).1
    · rw [if_pos hc]
      by_cases hl : ((pi ps k).1 - p.1) % st < cin st ps p a k
      · rw [if_pos hl]
        refine ⟨by omega, fun q hq e1 e2 => ?_, Or.inr ⟨pi ps k, pi_mem (by omega), hc.1, hc.2, rfl⟩⟩
        rw [take_succ_pi (by omega)] at hq
        rcases List.mem_append.1 hq with hq | hq
        · have := h2 q hq e1 e2; omega
        · obtain rfl : q = pi ps k := by simpa using hq
          exact Int.le_refl _
      · rw [if_neg hl]
        refine ⟨h1, fun q hq e1 e2 => ?_, h3⟩
        rw [take_succ_pi (by omega)] at hq
        rcases List.mem_append.1 hq with hq | hq
        · exact h2 q hq e1 e2
        · obtain rfl : q = pi ps k := by simpa using hq
          omega
    · rw [if_neg hc]
      refine ⟨h1, fun q hq e1 e2 => ?_, h3⟩
      rw [take_succ_pi (by omega)] at hq
      rcases List.mem_append.1 hq with hq | hq
      · exact h2 q hq e1 e2
      · obtain rfl : q = pi ps k := by simpa using hq
        exact absurd ⟨e1, e2⟩ hc
theorem cout_facts (st : Int) (ps : List (Int × Int)) : ∀ i, i ≤ ps.length → cout st ps i ≤ st ∧ (∀ p ∈ ps.take i, ∀ q ∈ ps, p.2 = q.2 → ¬ p.1 = q.1 → cout st ps i ≤ (q.1 - p.1) % st) ∧ (cout st ps i = st ∨ PairD st ps (cout st ps i))
  | 0, _ => ⟨Int.le_refl _, fun p hp => by simp at hp, Or.inl rfl⟩
  | i + 1, h => by
    obtain ⟨h1, h2, h3⟩ := cout_facts st ps i (by omega)
    obtain ⟨k1, k2, k3⟩ := cin_facts st ps (pi ps i) (cout st ps i) ps.length (Nat.le_refl _)
    rw [List.take_length] at k2
    rw [cout]
    refine ⟨by omega, fun p hp q hq e1 e2 => ?_, ?_⟩
    · rw [take_succ_pi (by omega)] at hp
      rcases List.mem_append.1 hp with hp | hp
      · have := h2 p hp q hq e1 e2; omega
      · obtain rfl : p = pi ps i := by simpa using hp
        exact k2 q hq e1 e2
    · rcases k3 with k3 | ⟨q, hq, e1, e2, e3⟩
      · rw [k3]; exact h3
      · exact Or.inr ⟨pi ps i, q, pi_mem (by omega), hq, e1, e2, e3⟩
theorem cout_min {st : Int} {ps qs : List (Int × Int)} (h : ∀ d, PairD st ps d ↔ PairD st qs d) : cout st ps ps.length = cout st qs qs.length := by
  obtain ⟨a1, a2, a3⟩ := cout_facts st ps ps.length (Nat.le_refl _)
  obtain ⟨b1, b2, b3⟩ := cout_facts st qs qs.length (Nat.le_refl _)
  rw [List.take_length] at a2 b2
  have low : ∀ d, PairD st ps d → cout st ps ps.length ≤ d := fun d ⟨p, q, hp, hq, e1, e2, e3⟩ => by have := a2 p hp q hq e1 e2; omega
  have low2 : ∀ d, PairD st qs d → cout st qs qs.length ≤ d := fun d ⟨p, q, hp, hq, e1, e2, e3⟩ => by have := b2 p hp q hq e1 e2; omega
  apply Int.le_antisymm
  · rcases b3 with b3 | b3
    · omega
    · exact low _ ((h _).2 b3)
  · rcases a3 with a3 | a3
    · omega
    · exact low2 _ ((h _).1 a3)
/-- A turned barrel's closest pins are as close. -/
theorem cout_turn {st bl b : Int} {ps : List (Int × Int)} (h : brB st bl ps = true) : cout st (trnS st b ps) (trnS st b ps).length = cout st ps ps.length := by
  obtain ⟨h1, h2, h3, h4⟩ := brB_iff.1 h
  refine cout_min fun d => ?_
  have dist : ∀ p q : Int × Int, ((trnP st b q).1 - (trnP st b p).1) % st = (q.1 - p.1) % st := fun p q => by
    simp only [trnP]
    rw [← Int.sub_emod]
    congr 1; omega
  constructor
  · rintro ⟨p, q, hp, hq, e1, e2, e3⟩
    obtain ⟨p0, hp0, rfl⟩ := List.mem_map.1 ((trnS_perm st b ps).mem_iff.1 hp)
    obtain ⟨q0, hq0, rfl⟩ := List.mem_map.1 ((trnS_perm st b ps).mem_iff.1 hq)
    refine ⟨p0, q0, hp0, hq0, e1, fun e => e2 (by simp only [trnP, e]), by rw [← dist]; exact e3⟩
  · rintro ⟨p, q, hp, hq, e1, e2, e3⟩
    refine ⟨trnP st b p, trnP st b q, (trnS_perm st b ps).mem_iff.2 (List.mem_map_of_mem hp), (trnS_perm st b ps).mem_iff.2 (List.mem_map_of_mem hq), e1, fun e => e2 (mod_inj (pins_mem h4 hp).1 (pins_mem h4 hq).1 e), by rw [dist]; exact e3⟩
end Go.Proofs.Ytgaohmbgjjhdbaa
