/- Hands: actions in two parts, in plain terms; the count of the actions that strike. No program in sight. -/
import Derived.Test.YtfddibdncniekaaDoorHnN
namespace Go.Proofs.YtfddibdncniekaaDoor

theorem bY_ext {s : ByteArray} {a b j : Nat} (hb : b ≤ s.size) (h : a + j < b) : bY (s.extract a b) j = bY s (a + j) := by
  have h1 : j < (s.extract a b).size := by rw [ByteArray.size_extract]; omega
  rw [bY_eq h1, bY_eq (by omega : a + j < s.size)]
  show (s.extract a b)[j] = s[a + j]
  rw [ByteArray.getElem_extract]
theorem size_ext {s : ByteArray} {a b : Nat} (hb : b ≤ s.size) : (s.extract a b).size = b - a := by rw [ByteArray.size_extract, Nat.min_eq_left hb]
theorem knB_iff {s : ByteArray} : knB s = true ↔ ∀ k, k < s.size → kn1 (bY s k) = true := ⟨fun h _ hk => knB_at h hk, fun h => kn_t h⟩
theorem knB_ext {s : ByteArray} {a b : Nat} (hb : b ≤ s.size) (h : knB s = true) : knB (s.extract a b) = true := by
  rw [knB_iff] at h ⊢
  intro k hk
  rw [size_ext hb] at hk
  rw [bY_ext hb (by omega)]
  exact h _ (by omega)
theorem mv_pre {gs : List Int} {s s1 : ByteArray} {h q : Int} {n : Nat} (hb : ∀ j, j < n → bY s1 j = bY s j) : ∀ k, k ≤ n → mvS gs s1 h q k = mvS gs s h q k ∧ mvL gs s1 h q k = mvL gs s h q k
  | 0, _ => ⟨rfl, rfl⟩
  | k + 1, hk => by
    obtain ⟨i1, i2⟩ := mv_pre (gs := gs) (h := h) (q := q) hb k (by omega)
    have e := hb k (by omega)
    have e2 : mvN gs s1 h q k = mvN gs s h q k := by unfold mvN; rw [e, i1]
    refine ⟨by rw [mvS, mvS, e, i1], ?_⟩
    rw [mvL, mvL, e2, i2]
theorem mv_suf {gs : List Int} {s s2 : ByteArray} {h q : Int} {T n : Nat} (hb : ∀ j, j < n → bY s2 j = bY s (T + j)) : ∀ k, k ≤ n →
    mvS gs s2 (mvS gs s h q T).1 (mvS gs s h q T).2 k = mvS gs s h q (T + k) ∧ mvL gs s h q T ++ mvL gs s2 (mvS gs s h q T).1 (mvS gs s h q T).2 k = mvL gs s h q (T + k)
  | 0, _ => ⟨rfl, by simp [mvL]⟩
  | k + 1, hk => by
    obtain ⟨i1, i2⟩ := mv_suf (gs := gs) (h := h) (q := q) hb k (by omega)
    have e := hb k (by omega)
    have e2 : mvN gs s2 (mvS gs s h q T).1 (mvS gs s h q T).2 k = mvN gs s h q (T + k) := by unfold mvN; rw [e, i1]
    refine ⟨by rw [mvS, e, i1]; rfl, ?_⟩
    show _ ++ mvL gs s2 _ _ (k + 1) = mvL gs s h q (T + k + 1)
    rw [mvL, mvL, e2]
    split
    · rw [← List.append_assoc, i2]
    · exact i2
/-- How many of the first k actions strike. -/
def cntB (s : ByteArray) : Nat → Nat
  | 0 => 0
  | k + 1 => if bY s k = 98 then cntB s k else cntB s k + 1
theorem cntB_b {s : ByteArray} {k : Nat} (h : bY s k = 98) : cntB s (k + 1) = cntB s k := if_pos h
theorem cntB_n {s : ByteArray} {k : Nat} (h : ¬ bY s k = 98) : cntB s (k + 1) = cntB s k + 1 := if_neg h
theorem cntB_le (s : ByteArray) : ∀ k, cntB s k ≤ k
  | 0 => Nat.le_refl _
  | k + 1 => by rw [cntB]; split <;> (have := cntB_le s k; omega)
theorem mvL_count {gs : List Int} (hw : whB gs = true) (s : ByteArray) (h q : Int) : ∀ k, (mvL gs s h q k).length = cntB s k
  | 0 => rfl
  | k + 1 => by
    have ih := mvL_count hw s h q k
    by_cases hb : bY s k = 98
    · have e : ¬ 0 < mvN gs s h q k := by unfold mvN stpN; rw [if_pos hb]; omega
      rw [mvL_non e, cntB_b hb, ih]
    · have e : 0 < mvN gs s h q k := by
        unfold mvN stpN
        rw [if_neg hb]
        exact (gapM_in hw _).1
      rw [mvL_pos e, cntB_n hb, List.length_append, ih]; rfl
end Go.Proofs.YtfddibdncniekaaDoor
