/- Words for slices of pairs of numbers (pins, hand states): reading, owning, equality, marks. No program in sight. -/
import Derived.Test.YtgaohmbgjjhdbaaGreatDoorBase
namespace Go.Proofs.YtgaohmbgjjhdbaaGreatDoor
open Go.RowKit

/-- The cells of a list of pairs. -/
def P64 : List (Int × Int) → List Value
  | [] => []
  | p :: ps => .int .i64 p.1 :: .int .i64 p.2 :: P64 ps
def pi (ps : List (Int × Int)) (k : Nat) : Int × Int := ps.getD k (0, 0)
theorem pi_eq {ps : List (Int × Int)} {k : Nat} (h : k < ps.length) : pi ps k = ps[k] := by simp [pi, List.getD, h]
theorem P64_length (ps : List (Int × Int)) : (P64 ps).length = ps.length * 2 := by
  induction ps with
  | nil => rfl
  | cons p ps ih => simp [P64, ih]; omega
theorem P64_append (ps qs : List (Int × Int)) : P64 (ps ++ qs) = P64 ps ++ P64 qs := by
  induction ps with
  | nil => rfl
  | cons p ps ih => simp [P64, ih]
theorem P64_get {ps : List (Int × Int)} {k : Nat} (h : k < ps.length) : (P64 ps)[k * 2]? = some (.int .i64 (pi ps k).1) ∧ (P64 ps)[k * 2 + 1]? = some (.int .i64 (pi ps k).2) := by
  induction ps generalizing k with
  | nil => simp at h
  | cons p ps ih =>
    cases k with
    | zero => simp [P64, pi]
    | succ k =>
      have hk : k < ps.length := by simpa using h
      have e := ih hk
      have e2 : (k + 1) * 2 = k * 2 + 1 + 1 := by omega
      have e3 : pi (p :: ps) (k + 1) = pi ps k := by simp [pi]
      rw [e2, e3]
      simpa [P64] using e
theorem P64_one (ps : List (Int × Int)) : ∀ u ∈ P64 ps, u.oneCell' = true := by
  induction ps with
  | nil => intro u hu; simp [P64] at hu
  | cons p ps ih =>
    intro u hu
    simp only [P64, List.mem_cons] at hu
    rcases hu with rfl | rfl | hu
    · rfl
    · rfl
    · exact ih u hu
theorem pi_append_left {ps qs : List (Int × Int)} {k : Nat} (h : k < ps.length) : pi (ps ++ qs) k = pi ps k := by
  simp [pi, List.getD, List.getElem?_append, h]
theorem pi_append_right {ps qs : List (Int × Int)} {k : Nat} (h : ps.length ≤ k) : pi (ps ++ qs) k = pi qs (k - ps.length) := by
  simp [pi, List.getD, List.getElem?_append, Nat.not_lt.2 h]
theorem pi_mem {ps : List (Int × Int)} {k : Nat} (h : k < ps.length) : pi ps k ∈ ps := by rw [pi_eq h]; exact List.getElem_mem h
theorem mem_pi {ps : List (Int × Int)} {p : Int × Int} (h : p ∈ ps) : ∃ k, k < ps.length ∧ pi ps k = p := by
  obtain ⟨k, hk, rfl⟩ := List.getElem_of_mem h
  exact ⟨k, hk, pi_eq hk⟩
theorem ext_pi {ps qs : List (Int × Int)} (hl : ps.length = qs.length) (h : ∀ j, j < ps.length → pi ps j = pi qs j) : ps = qs := by
  apply List.ext_getElem hl
  intro j h1 h2
  have := h j h1
  rwa [pi_eq h1, pi_eq h2] at this

/-- A slice's value that reads as the pairs ps. -/
def SlP (w : World) (v : Value) (ps : List (Int × Int)) : Prop := SlC w v ps.length (P64 ps)
theorem SlP.below {w w' : World} {v : Value} {ps : List (Int × Int)} (h : SlP w v ps) (hb : Below w.heap.size w w') : SlP w' v ps := SlC.below h hb
theorem SlP.grown {w w' : World} {v : Value} {ps : List (Int × Int)} {row : Option Nat} (h : SlP w v ps) (hg : w.grownBy w' row) (hne : ∀ b, v.ownBlock = some b → some b ≠ row) : SlP w' v ps := SlC.grown h hg hne
theorem SlP.alloc {w : World} {v : Value} {ps : List (Int × Int)} (h : SlP w v ps) (o : Obj) : SlP (w.alloc o) v ps := h.below ((Below.refl _ _).alloc (Nat.le_refl _) o)
theorem SlP.drew {w : World} {v : Value} {ps : List (Int × Int)} (h : SlP w v ps) : SlP w.drew v ps := h
theorem SlP.drewN {w : World} {v : Value} {ps : List (Int × Int)} (h : SlP w v ps) (n : Nat) : SlP (w.drewN n) v ps := h
theorem SlP.nil_ (w : World) : SlP w (.slice none 0 0) [] := ⟨none, 0, rfl, Nat.le_refl _, Nat.zero_le _, fun h => absurd h (by simp [P64])⟩
theorem SlP.of_own {w : World} {base : Nat} {e : TypeId} {v : Value} {ps : List (Int × Int)} (h : w.ownsRow base e 2 v ps.length (P64 ps)) : SlP w v ps := SlC.of_own h
/-- What a walk wants of a slice of pairs. -/
theorem SlP.open_ {w : World} {v : Value} {ps : List (Int × Int)} (h : SlP w v ps) :
    ∃ A c, v = .slice A ps.length c ∧ ps.length ≤ c ∧ c ≤ 9223372036854775807 ∧ Hid (∀ k, k < ps.length → ∃ b o, A = some ⟨b, o, none⟩ ∧ b < w.heap.size ∧ ∀ j, j < ps.length → w.cell? ⟨b, o + j * 2, none⟩ = some (.int .i64 (pi ps j).1) ∧ w.cell? ⟨b, o + (j * 2 + 1), none⟩ = some (.int .i64 (pi ps j).2)) := by
  obtain ⟨A, c, rfl, h1, h2, h3⟩ := h
  refine ⟨A, c, rfl, h1, by simpa only [maxLen] using h2, fun k hk => ?_⟩
  obtain ⟨b, o, rfl, hb, hc⟩ := h3 (by rw [P64_length]; omega)
  refine ⟨b, o, rfl, hb, fun j hj => ?_⟩
  have e := P64_get hj
  exact ⟨by rw [hc _ (by rw [P64_length]; omega), e.1], by rw [hc _ (by rw [P64_length]; omega), e.2]⟩

/-- Whether two lists of pairs are equal. -/
def eqP (ps qs : List (Int × Int)) : Bool := decide (ps = qs)
theorem eqP_self (ps : List (Int × Int)) : eqP ps ps = true := by simp [eqP]
/-- k, k + 1, .. in m pairs. -/
def runP (k : Int) (m : Nat) : List (Int × Int) := (List.range m).map fun j : Nat => (k + 2 * (j : Int), k + 2 * (j : Int) + 1)
theorem runP_length (k : Int) (m : Nat) : (runP k m).length = m := by simp [runP]
theorem pi_runP {k : Int} {m j : Nat} (h : j < m) : pi (runP k m) j = (k + 2 * (j : Int), k + 2 * (j : Int) + 1) := by
  rw [pi_eq (by rw [runP_length]; exact h)]; simp [runP]
theorem runP_succ (k : Int) (m : Nat) : runP k (m + 1) = runP k m ++ [(k + 2 * (m : Int), k + 2 * (m : Int) + 1)] := by simp [runP, List.range_succ]
/-- ps, its first j pairs written over. -/
def markP (ps : List (Int × Int)) (k : Int) (j : Nat) : List (Int × Int) := runP k j ++ ps.drop j
theorem markP_zero (ps : List (Int × Int)) (k : Int) : markP ps k 0 = ps := rfl
theorem markP_all (ps : List (Int × Int)) (k : Int) : markP ps k ps.length = runP k ps.length := by simp [markP]
theorem markP_length {ps : List (Int × Int)} {k : Int} {j : Nat} (h : j ≤ ps.length) : (markP ps k j).length = ps.length := by
  simp [markP, runP_length]; omega
theorem P64_set {ps : List (Int × Int)} {j : Nat} (h : j < ps.length) (x y : Int) : ((P64 ps).set (j * 2) (.int .i64 x)).set (j * 2 + 1) (.int .i64 y) = P64 (ps.set j (x, y)) := by
  induction ps generalizing j with
  | nil => simp at h
  | cons p ps ih =>
    cases j with
    | zero => simp [P64]
    | succ j =>
      have e2 : (j + 1) * 2 = j * 2 + 1 + 1 := by omega
      rw [e2]
      simp only [P64, List.set_cons_succ]
      rw [ih (by simpa using h)]
theorem markP_set {ps : List (Int × Int)} {k : Int} {j : Nat} (h : j < ps.length) :
    ((P64 (markP ps k j)).set (j * 2) (.int .i64 (k + 2 * (j : Int)))).set (j * 2 + 1) (.int .i64 (k + 2 * (j : Int) + 1)) = P64 (markP ps k (j + 1)) := by
  rw [P64_set (by rw [markP_length (by omega)]; exact h)]
  congr 1
  rw [markP, markP, runP_succ, List.set_append_right _ _ (by rw [runP_length]; exact Nat.le_refl _), runP_length, Nat.sub_self, List.append_assoc]
  congr 1
  rw [List.drop_eq_getElem_cons h]
  rfl
end Go.Proofs.YtgaohmbgjjhdbaaGreatDoor
