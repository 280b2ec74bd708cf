/- Chimes: plain laws of hunts: the barrel that plays rows plays them in order; the rows of a plain hunt. -/
import Derived.Test.YtgaohmbgjjhdbaaChRs
import Derived.Test.YtgaohmbgjjhdbaaChLw
import Derived.Test.YtgaohmbgjjhdbaaDrN
namespace Go.Proofs.Ytgaohmbgjjhdbaa
open Go.RowKit

theorem rbX_at {R : List (List Int)} {n i : Nat} : ∀ {k j : Nat}, j < k → pi (rbX R n i k) j = (((i * n + j : Nat) : Int), ix (rx R i) j)
  | 0, j, h => absurd h (Nat.not_lt_zero _)
  | k + 1, j, h => by
    rw [rbX]
    by_cases hj : j < k
    · rw [pi_append_left (by rw [rbX_length]; exact hj)]; exact rbX_at hj
    · obtain rfl : j = k := by omega
      rw [pi_append_right (by rw [rbX_length]; exact Nat.le_refl _), rbX_length, Nat.sub_self]
      rfl
theorem rbA_at {R : List (List Int)} {n : Nat} (hn : 0 < n) : ∀ {i t : Nat}, t < i * n → pi (rbA R n i) t = ((t : Int), ix (rx R (t / n)) (t % n))
  | 0, t, h => absurd h (by simp)
  | i + 1, t, h => by
    rw [rbA]
    by_cases ht : t < i * n
    · rw [pi_append_left (by rw [rbA_length]; exact ht)]; exact rbA_at hn ht
    · have h2 : t < i * n + n := by rw [Nat.add_mul] at h; omega
      rw [pi_append_right (by rw [rbA_length]; omega), rbA_length, rbX_at (by omega)]
      have e1 : t / n = i := Nat.div_eq_of_lt_le (by omega) (by rw [Nat.add_mul]; omega)
      have e2 : t % n = t - i * n := by
        have := Nat.div_add_mod t n
        rw [e1, Nat.mul_comm] at this
        omega
      rw [e1, e2]
      congr 1
      omega
theorem ord_in {xs : List Int} (h : ordP xs) {x : Int} (hx : x ∈ xs) : 0 ≤ x ∧ x < xs.length := mem_rngI.1 ((ordP_perm h).mem_iff.1 hx)
/-- A barrel with one pin in each step. -/
def OneEach (ps : List (Int × Int)) : Prop := ∀ t, t < ps.length → (pi ps t).1 = (t : Int)
theorem bA_one {ps : List (Int × Int)} (h : OneEach ps) (t : Nat) : ∀ k, k ≤ ps.length → bA ps t k = if t < k then [(pi ps t).2] else []
  | 0, _ => by simp [bA]
  | k + 1, hk => by
    have ih := bA_one h t k (by omega)
    have e := h k (by omega)
    rw [bA, e]
    by_cases hkt : k = t
    · subst hkt
      rw [if_pos rfl, ih, if_neg (Nat.lt_irrefl _), if_pos (Nat.lt_succ_self _)]
      rfl
    · rw [if_neg (by omega), ih]
      by_cases h1 : t < k
      · rw [if_pos h1, if_pos (by omega)]
      · rw [if_neg h1, if_neg (by omega)]
theorem plA_one {ps : List (Int × Int)} (h : OneEach ps) : ∀ t, t ≤ ps.length → plA ps ps.length 0 t = ps.take t
  | 0, _ => by simp [plA]
  | t + 1, ht => by
    have ih := plA_one h t (by omega)
    have e1 : sAt ps.length 0 t = t := by
      unfold sAt
      rw [Int.zero_add, Int.emod_eq_of_lt (by omega) (by omega)]
      omega
    have e2 := h t (by omega)
    rw [plA, ih, e1, bA_one h t _ (Nat.le_refl _), if_pos (by omega), take_succ_pi (by omega)]
    congr 1
    show [((t : Int), (pi ps t).2)] = [pi ps t]
    rw [← e2]
section
variable {R : List (List Int)}
theorem rb_one (h : rowK R = true) : OneEach (rbA R (rx R 0).length R.length) := fun t ht => by
  obtain ⟨_, ⟨h1, _⟩, _⟩ := rowK_iff.1 h
  rw [rbA_length] at ht
  rw [rbA_at h1 ht]
/-- The barrel that plays rows is valid. -/
theorem rb_valid (h : rowK R = true) (hf : rowFits R = true) : brB ((R.length : Int) * ((rx R 0).length : Int)) ((rx R 0).length : Int) (rbA R (rx R 0).length R.length) = true := by
  obtain ⟨h0, ⟨h1, h2⟩, _⟩ := rowK_iff.1 h
  have hf' : R.length * (rx R 0).length ≤ 64 := by simpa [rowFits] using hf
  have hpos : 1 ≤ R.length * (rx R 0).length := Nat.mul_pos (by omega) h1
  have hl := rbA_length R (rx R 0).length R.length
  rw [← Int.natCast_mul]
  refine brB_iff.2 ⟨⟨by omega, by omega⟩, ⟨by omega, by omega⟩, by omega, fun j hj => ?_⟩
  have hj' : j < R.length * (rx R 0).length := by rw [← hl]; exact hj
  have hd : j / (rx R 0).length < R.length := Nat.div_lt_of_lt_mul (by rw [Nat.mul_comm]; exact hj')
  have hm : j % (rx R 0).length < (rx R 0).length := Nat.mod_lt _ h1
  obtain ⟨f1, f2, _⟩ := row_facts h hd
  have hin := ord_in f2 (ix_mem (xs := rx R (j / (rx R 0).length)) (k := j % (rx R 0).length) (by omega))
  unfold PinOk
  rw [rbA_at h1 hj']
  refine ⟨inB_t (by show (0 : Int) ≤ _; simp only; omega) (by simp only; omega), inB_t (by simp only; omega) (by simp only; omega), fun hj0 => ?_⟩
  rw [rbA_at h1 (by omega)]
  simp only [befP, Bool.or_eq_true, decide_eq_true_eq]
  exact Or.inl (by omega)
/-- What such a barrel plays in one turn: its pins. -/
theorem rb_play (h : rowK R = true) : plA (rbA R (rx R 0).length R.length) (R.length * (rx R 0).length) 0 (R.length * (rx R 0).length) = rbA R (rx R 0).length R.length := by
  have hl := rbA_length R (rx R 0).length R.length
  have h1 := plA_one (rb_one h) _ (Nat.le_refl _)
  rw [hl] at h1
  rw [h1, List.take_of_length_le (by rw [hl]; exact Nat.le_refl _)]
end
/-- The rows of a plain hunt are true; the last one, and how it stands to the first. -/
def huL (N : Nat) : Prop := ix (hr N (2 * N - 1)) 0 = 0 ∧ ∀ q, q < N → 2 * q + 2 < N → ix (hr N (2 * N - 1)) (2 * q + 1) = ((2 * q + 2 : Nat) : Int) ∧ ix (hr N (2 * N - 1)) (2 * q + 2) = ((2 * q + 1 : Nat) : Int)
instance (N : Nat) : Decidable (huL N) := by unfold huL; infer_instance
theorem hunt_last {N : Nat} (h1 : 3 ≤ N) (h2 : N ≤ 8) : huL N := by
  rcases (show N = 3 ∨ N = 4 ∨ N = 5 ∨ N = 6 ∨ N = 7 ∨ N = 8 by omega) with rfl | rfl | rfl | rfl | rfl | rfl <;> decide +kernel
theorem hunt_true {N : Nat} (h1 : 3 ≤ N) (h2 : N ≤ 8) : trueB (rl (2 * N) (hr N)) = true := by
  rcases (show N = 3 ∨ N = 4 ∨ N = 5 ∨ N = 6 ∨ N = 7 ∨ N = 8 by omega) with rfl | rfl | rfl | rfl | rfl | rfl <;> decide +kernel
end Go.Proofs.Ytgaohmbgjjhdbaa
