/- Hands: the first way that leads to a state of a kind, in plain terms. No program in sight. -/
import Derived.Test.YtfddibdncniekaaDoorHnG
namespace Go.Proofs.YtfddibdncniekaaDoor

/-- The path of the first way whose state is of a kind, and the number; 3: there is none. -/
def fwW (p : Int × Int → Bool) : List Way → ByteArray × Int
  | [] => (⟨#[]⟩, 3)
  | y :: L => if p y.1 = true then (y.2, 0) else fwW p L
def NoW (p : Int × Int → Bool) (L : List Way) (k : Nat) : Prop := ∀ j, j < k → p (pw L j).1 = false
theorem NoW.zero (p : Int × Int → Bool) (L : List Way) : NoW p L 0 := fun _ h => absurd h (Nat.not_lt_zero _)
theorem NoW.succ {p : Int × Int → Bool} {L : List Way} {k : Nat} (h : NoW p L k) (he : p (pw L k).1 = false) : NoW p L (k + 1) := fun j hj => by
  rcases Nat.lt_or_ge j k with h3 | h3
  · exact h j h3
  · have : j = k := by omega
    subst this; exact he
theorem fwW_hit {p : Int × Int → Bool} : ∀ {L : List Way} {k : Nat}, k < L.length → NoW p L k → p (pw L k).1 = true → fwW p L = ((pw L k).2, 0)
  | [], k, h, _, _ => by simp at h
  | y :: L, 0, _, _, ht => by
    have e : pw (y :: L) 0 = y := by simp [pw]
    rw [e] at ht ⊢
    rw [fwW, if_pos ht]
  | y :: L, k + 1, h, hn, ht => by
    have e : ∀ j, pw (y :: L) (j + 1) = pw L j := fun j => by simp [pw]
    have e0 : pw (y :: L) 0 = y := by simp [pw]
    have h0 := hn 0 (by omega)
    rw [e0] at h0
    rw [e] at ht ⊢
    rw [fwW, if_neg (by rw [h0]; simp)]
    exact fwW_hit (by simpa using h) (fun j hj => by have := hn (j + 1) (by omega); rwa [e] at this) ht
theorem fwW_none {p : Int × Int → Bool} : ∀ {L : List Way}, NoW p L L.length → fwW p L = (⟨#[]⟩, 3)
  | [], _ => rfl
  | y :: L, hn => by
    have e : ∀ j, pw (y :: L) (j + 1) = pw L j := fun j => by simp [pw]
    have e0 : pw (y :: L) 0 = y := by simp [pw]
    have h0 := hn 0 (by simp)
    rw [e0] at h0
    rw [fwW, if_neg (by rw [h0]; simp)]
    exact fwW_none (fun j hj => by have := hn (j + 1) (by simpa using hj); rwa [e] at this)
theorem fwW_case (p : Int × Int → Bool) (L : List Way) : (∃ k, k < L.length ∧ NoW p L k ∧ p (pw L k).1 = true ∧ fwW p L = ((pw L k).2, 0)) ∨ (NoW p L L.length ∧ fwW p L = (⟨#[]⟩, 3)) := by
  have key : ∀ n, n ≤ L.length → (∃ k, k < n ∧ NoW p L k ∧ p (pw L k).1 = true) ∨ NoW p L n := fun n => by
    induction n with
    | zero => intro _; exact .inr (NoW.zero p L)
    | succ n ih =>
      intro hn
      rcases ih (by omega) with ⟨k, h1, h2, h3⟩ | h
      · exact .inl ⟨k, by omega, h2, h3⟩
      · cases hp : p (pw L n).1
        · exact .inr (h.succ hp)
        · exact .inl ⟨n, by omega, h, hp⟩
  rcases key L.length (Nat.le_refl _) with ⟨k, h1, h2, h3⟩ | h
  · exact .inl ⟨k, h1, h2, h3, fwW_hit h1 h2 h3⟩
  · exact .inr ⟨h, fwW_none h⟩
theorem fwW_size {gs : List Int} {A : List UInt8} {x0 : Int × Int} {L : List Way} (h : WSt gs A x0 L) (p : Int × Int → Bool) : (fwW p L).1.size ≤ 12 * gs.length := by
  have hc := h.count
  rcases fwW_case p L with ⟨k, h1, _, _, e⟩ | ⟨_, e⟩
  · rw [e]
    have := h.size k h1
    show (pw L k).2.size ≤ _
    omega
  · rw [e]; exact Nat.zero_le _
end Go.Proofs.YtfddibdncniekaaDoor
