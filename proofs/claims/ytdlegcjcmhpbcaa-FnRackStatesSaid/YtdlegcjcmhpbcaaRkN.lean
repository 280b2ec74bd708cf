/- Racks in plain numbers: the states after some minutes, what is struck on the way, and when the next strike comes. No program in sight. -/
import Derived.Test.YtdlegcjcmhpbcaaRkK
namespace Go.Proofs.Ytdlegcjcmhpbcaa

/-- The minute and the readiness after k minutes. -/
def itM (m : Int) (k : Nat) : Int := (m + k) % 720
def itR (ds : List Int) (wn m rd : Int) : Nat → Int
  | 0 => rd
  | k + 1 => tkR ds wn (itM m k) (itR ds wn m rd k)
/-- The blows of minute k + 1. -/
def itB (ds : List Int) (wn m rd : Int) (k : Nat) : Int := tkB (itM m k) (itR ds wn m rd k)
/-- All blows of the first k minutes. -/
def itL (ds : List Int) (wn m rd : Int) : Nat → List Int
  | 0 => []
  | k + 1 => if 0 < itB ds wn m rd k then itL ds wn m rd k ++ [itB ds wn m rd k] else itL ds wn m rd k

theorem itM_zero {m : Int} (h : 0 ≤ m ∧ m ≤ 719) : itM m 0 = m := by unfold itM; omega
theorem itM_in (m : Int) (k : Nat) : 0 ≤ itM m k ∧ itM m k ≤ 719 := by unfold itM; omega
theorem itM_succ (m : Int) (k : Nat) : tkM (itM m k) = itM m (k + 1) := by unfold tkM itM; omega
theorem itM_add (m : Int) (j k : Nat) : itM (itM m j) k = itM m (j + k) := by unfold itM; omega
theorem itR_succ (ds : List Int) (wn m rd : Int) (k : Nat) : tkR ds wn (itM m k) (itR ds wn m rd k) = itR ds wn m rd (k + 1) := rfl
theorem itR_add (ds : List Int) (wn m rd : Int) (j k : Nat) : itR ds wn (itM m j) (itR ds wn m rd j) k = itR ds wn m rd (j + k) := by
  induction k with
  | zero => rfl
  | succ k ih => rw [itR, ih, itM_add]; rfl
theorem itB_add (ds : List Int) (wn m rd : Int) (j k : Nat) : itB ds wn (itM m j) (itR ds wn m rd j) k = itB ds wn m rd (j + k) := by
  rw [itB, itR_add, itM_add]; rfl
theorem itL_add (ds : List Int) (wn m rd : Int) (j k : Nat) : itL ds wn m rd (j + k) = itL ds wn m rd j ++ itL ds wn (itM m j) (itR ds wn m rd j) k := by
  induction k with
  | zero => simp [itL]
  | succ k ih =>
    rw [← Nat.add_assoc, itL, itL, itB_add, ih]
    split <;> simp
theorem itL_pos {ds : List Int} {wn m rd : Int} {k : Nat} (h : 0 < itB ds wn m rd k) : itL ds wn m rd (k + 1) = itL ds wn m rd k ++ [itB ds wn m rd k] := by rw [itL, if_pos h]
theorem itL_non {ds : List Int} {wn m rd : Int} {k : Nat} (h : ¬ 0 < itB ds wn m rd k) : itL ds wn m rd (k + 1) = itL ds wn m rd k := by rw [itL, if_neg h]
theorem itL_length (ds : List Int) (wn m rd : Int) (k : Nat) : (itL ds wn m rd k).length ≤ k := by
  induction k with
  | zero => simp [itL]
  | succ k ih => rw [itL]; split <;> (try simp) <;> omega

/-- What a state holds is 0 or a number of blows. -/
theorem itR_in {ds : List Int} {wn : Int} (hr : RkOk ds wn) (m : Int) {rd : Int} (h : 0 ≤ rd ∧ rd ≤ 12) (k : Nat) : 0 ≤ itR ds wn m rd k ∧ itR ds wn m rd k ≤ 12 := by
  induction k with
  | zero => exact h
  | succ k ih =>
    rw [itR, tkR]
    have := depthM_in hr (tkM (itM m k))
    split
    · omega
    · split <;> omega
theorem stOk_in {ds : List Int} {wn m rd : Int} (hr : RkOk ds wn) (h : StOk ds wn m rd) : 0 ≤ rd ∧ rd ≤ 12 := by
  have := depthM_in hr m
  rcases h.2 with h | h <;> omega
/-- A state's tick is valid. -/
theorem stOk_tick {ds : List Int} {wn m rd : Int} (hr : RkOk ds wn) (h : StOk ds wn m rd) : StOk ds wn (tkM m) (tkR ds wn m rd) := by
  refine ⟨tkM_in m, ?_⟩
  unfold tkR
  have g := hr.2.2
  split
  · exact .inl rfl
  · split
    · exact .inr ⟨by omega, rfl⟩
    · rename_i h1 h2
      rcases h.2 with h3 | ⟨h3, h4⟩
      · exact .inl h3
      · refine .inr ⟨?_, ?_⟩
        · have := h.1; unfold tkM at *; omega
        · rw [h4]
          have e : snail wn (tkM m) = snail wn m := by
            have := h.1
            unfold tkM at *
            unfold snail
            omega
          rw [depthM, depthM, e]
theorem stOk_it {ds : List Int} {wn m rd : Int} (hr : RkOk ds wn) (h : StOk ds wn m rd) (k : Nat) : StOk ds wn (itM m k) (itR ds wn m rd k) := by
  induction k with
  | zero => rw [itM_zero h.1]; exact h
  | succ k ih => rw [← itM_succ]; exact stOk_tick hr ih

/-- From a full hour: the warning comes, and then the strike, at the next full hour. -/
theorem hour_ready {ds : List Int} {wn m rd : Int} (hr : RkOk ds wn) (hm : m % 60 = 0) (j : Nat) (h1 : 60 - wn ≤ (j : Int)) (h2 : j ≤ 59) : 0 < itR ds wn m rd j := by
  have g := hr.2.2
  induction j with
  | zero => omega
  | succ j ih =>
    rw [itR, tkR, itM_succ]
    have e : itM m (j + 1) % 60 = ((j + 1 : Nat) : Int) := by unfold itM; omega
    rw [if_neg (by omega)]
    by_cases h3 : ((j + 1 : Nat) : Int) = 60 - wn
    · rw [if_pos (by omega)]
      have := depthM_in hr (itM m (j + 1)); omega
    · rw [if_neg (by omega)]
      exact ih (by omega) (by omega)
theorem hour_strikes {ds : List Int} {wn m rd : Int} (hr : RkOk ds wn) (hm : m % 60 = 0) : 0 < itB ds wn m rd 59 := by
  have g := hr.2.2
  have := hour_ready (rd := rd) hr hm 59 (by omega) (by omega)
  have e : tkM (itM m 59) % 60 = 0 := by rw [itM_succ]; unfold itM; omega
  rw [itB, tkB, if_pos e]
  exact this
theorem some_strike {ds : List Int} {wn m rd : Int} (hr : RkOk ds wn) : ∃ k, k < 120 ∧ 0 < itB ds wn m rd k := by
  let h := (60 - m % 60).toNat
  have hh : (h : Int) = 60 - m % 60 := by simp only [h]; omega
  refine ⟨h + 59, by omega, ?_⟩
  rw [← itB_add]
  exact hour_strikes hr (by unfold itM; omega)
/-- The first minute with a strike. -/
theorem first_strike {ds : List Int} {wn m rd : Int} (hr : RkOk ds wn) : ∃ k, k < 120 ∧ 0 < itB ds wn m rd k ∧ ∀ j, j < k → ¬ 0 < itB ds wn m rd j := by
  have key : ∀ n, (∃ k, k < n ∧ 0 < itB ds wn m rd k) → ∃ k, k < n ∧ 0 < itB ds wn m rd k ∧ ∀ j, j < k → ¬ 0 < itB ds wn m rd j := by
    intro n
    induction n with
    | zero => rintro ⟨k, hk, _⟩; omega
    | succ n ih =>
      rintro ⟨k, hk, hp⟩
      by_cases he : ∃ k, k < n ∧ 0 < itB ds wn m rd k
      · obtain ⟨a, b, c⟩ := ih he; exact ⟨a, by omega, c⟩
      · refine ⟨k, hk, hp, fun j hj hq => he ⟨j, by omega, hq⟩⟩
  obtain ⟨k, h1, h2⟩ := key 120 (some_strike hr)
  exact ⟨k, h1, h2⟩
theorem itB_in {ds : List Int} {wn : Int} (hr : RkOk ds wn) (m : Int) {rd : Int} (h : 0 ≤ rd ∧ rd ≤ 12) (k : Nat) : 0 ≤ itB ds wn m rd k ∧ itB ds wn m rd k ≤ 12 := by
  have := itR_in hr m h k
  rw [itB, tkB]
  split <;> omega
end Go.Proofs.Ytdlegcjcmhpbcaa
