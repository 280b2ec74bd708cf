/- Hands: where a shortest sequence leads, in plain terms: its beginnings lead to states that stand earlier in the list. No program in sight. -/
import Derived.Test.YtfddibdncniekaaDoorHsP
import Derived.Test.YtfddibdncniekaaDoorHnQ
namespace Go.Proofs.YtfddibdncniekaaDoor

theorem bY_app {p q : ByteArray} {j : Nat} (h : j < p.size) : bY (p ++ q) j = bY p j := by
  have h2 : j < (p ++ q).size := by rw [ByteArray.size_append]; omega
  rw [bY_eq h2, bY_eq h]
  simp only [ByteArray.data_append, Array.toList_append]
  exact List.getElem_append_left (by simpa using h)
theorem bY_end (p : ByteArray) (b : UInt8) : bY (p ++ by1 b) p.size = b := by
  have h2 : p.size < (p ++ by1 b).size := by rw [ByteArray.size_append]; show p.size < p.size + 1; omega
  rw [bY_eq h2]
  simp only [ByteArray.data_append, Array.toList_append]
  rw [List.getElem_append_right (by simp)]
  simp [by1]
theorem size_by1 (p : ByteArray) (b : UInt8) : (p ++ by1 b).size = p.size + 1 := by rw [ByteArray.size_append]; rfl
/-- Each beginning of a way's path leads to an earlier state. -/
theorem path_pre {gs : List Int} {A : List UInt8} {h q : Int} {L : List Way} (hA : ∀ b ∈ A, kn1 b = true) (hL : WSt gs A (h, q) L) : ∀ k, k < L.length →
    knB (pw L k).2 = true ∧ mvS gs (pw L k).2 h q (pw L k).2.size = (pw L k).1 ∧ ∀ n, n < (pw L k).2.size → ∃ j, j < k ∧ mvS gs (pw L k).2 h q n = (pw L j).1 := by
  intro k
  induction k using Nat.strongRecOn with
  | ind k ih =>
    intro hk
    rcases Nat.eq_zero_or_pos k with rfl | hpos
    · rw [hL.hd]
      exact ⟨rfl, rfl, fun n hn => absurd hn (Nat.not_lt_zero _)⟩
    · obtain ⟨j, b, hj, hb, e⟩ := hL.par k hpos hk
      obtain ⟨i1, i2, i3⟩ := ih j hj (by omega)
      have hpre := fun n (hn : n ≤ (pw L j).2.size) => (mv_pre (gs := gs) (s := (pw L j).2) (s1 := (pw L j).2 ++ by1 b) (h := h) (q := q) (n := (pw L j).2.size) (fun i hi => bY_app hi) n hn).1
      rw [e]
      simp only
      refine ⟨?_, ?_, fun n hn => ?_⟩
      · rw [knB_iff] at i1 ⊢
        intro i hi
        rw [size_by1] at hi
        rcases Nat.lt_or_ge i (pw L j).2.size with h2 | h2
        · rw [bY_app h2]; exact i1 i h2
        · obtain rfl : i = (pw L j).2.size := by omega
          rw [bY_end]; exact hA b hb
      · rw [size_by1, mvS, bY_end, hpre _ (Nat.le_refl _), i2]
      · rw [size_by1] at hn
        rw [hpre n (by omega)]
        rcases Nat.lt_or_ge n (pw L j).2.size with h2 | h2
        · obtain ⟨j2, hj2, e2⟩ := i3 n h2
          exact ⟨j2, by omega, e2⟩
        · obtain rfl : n = (pw L j).2.size := by omega
          exact ⟨j, hj, i2⟩
theorem wt_path {P : Int × Int → Bool} {gs : List Int} {h q : Int} {s : ByteArray} (hs : hnB gs h q = true) (e : (wtR P gs h q s).2 = 0) :
    knB (wtR P gs h q s).1 = true ∧ P (mvS gs (wtR P gs h q s).1 h q (wtR P gs h q s).1.size) = true ∧ ∀ n, n < (wtR P gs h q s).1.size → P (mvS gs (wtR P gs h q s).1 h q n) = false := by
  obtain ⟨hw, hx⟩ := hnB_iff.1 hs
  obtain ⟨-, h1, h24⟩ := whB_iff.1 hw
  cases hk : knB s with
  | false => rw [wtR_f hk] at e; simp at e
  | true =>
    rw [wtR_t hk] at e ⊢
    have hL := (waysOf_ok s h1 hx).1
    rcases fwW_case P (waysOf gs h q s) with ⟨k, hk2, hno, hp, e2⟩ | ⟨_, e2⟩
    · rw [e2]
      obtain ⟨p1, p2, p3⟩ := path_pre (fun b hb => actA_kn hb) hL k hk2
      refine ⟨p1, by rw [p2]; exact hp, fun n hn => ?_⟩
      obtain ⟨j, hj, e3⟩ := p3 n hn
      show P (mvS gs (pw (waysOf gs h q s) k).2 h q n) = false
      rw [e3]
      exact hno j hj
    · rw [e2] at e; simp at e
theorem hb_path {gs : List Int} {h q t u : Int} {s : ByteArray} (e : (hbR gs h q t u s).2 = 0) :
    hnB gs h q = true ∧ knB (hbR gs h q t u s).1 = true ∧ mvS gs (hbR gs h q t u s).1 h q (hbR gs h q t u s).1.size = (t, u) := by
  unfold hbR at e ⊢
  by_cases hc : hnB gs h q = true ∧ hnB gs t u = true
  · rw [if_pos hc] at e ⊢
    obtain ⟨p1, p2, _⟩ := wt_path hc.1 e
    exact ⟨hc.1, p1, by simpa [sameP] using p2⟩
  · rw [if_neg hc] at e; simp at e
theorem pt_path {r : Bool} {gs : List Int} {h q : Int} {s : ByteArray} (e : (ptR r gs h q s).2 = 0) :
    hnB gs h q = true ∧ knB (ptR r gs h q s).1 = true ∧ ∀ n, n ≤ (ptR r gs h q s).1.size → rgB gs (mvS gs (ptR r gs h q s).1 h q n).1 (mvS gs (ptR r gs h q s).1 h q n).2 = (decide (n = (ptR r gs h q s).1.size) == r) := by
  unfold ptR at e ⊢
  by_cases hc : hnB gs h q = true
  · rw [if_pos hc] at e ⊢
    obtain ⟨p1, p2, p3⟩ := wt_path hc e
    refine ⟨hc, p1, fun n hn => ?_⟩
    rcases Nat.lt_or_ge n (wtR (fun x => rgB gs x.1 x.2 == r) gs h q s).1.size with h2 | h2
    · have := p3 n h2
      have e3 : decide (n = (wtR (fun x => rgB gs x.1 x.2 == r) gs h q s).1.size) = false := decide_eq_false (by omega)
      rw [e3]
      cases r <;> simpa using this
    · obtain rfl : n = _ := Nat.le_antisymm hn h2
      have e3 : decide ((wtR (fun x => rgB gs x.1 x.2 == r) gs h q s).1.size = (wtR (fun x => rgB gs x.1 x.2 == r) gs h q s).1.size) = true := decide_eq_true rfl
      rw [e3]
      cases r <;> simpa using p2
  · rw [if_neg hc] at e; simp at e
end Go.Proofs.YtfddibdncniekaaDoor
