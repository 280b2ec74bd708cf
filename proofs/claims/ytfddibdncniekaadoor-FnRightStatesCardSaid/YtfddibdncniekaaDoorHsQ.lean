/- Hands: what a right state does: it stays right, and lifts lead to the state that LiftsToRight speaks of. No program in sight. -/
import Derived.Test.YtfddibdncniekaaDoorHsP
import Derived.Test.YtfddibdncniekaaDoorHnS
import Derived.Test.YtfddibdncniekaaDoorHnL
namespace Go.Proofs.YtfddibdncniekaaDoor

theorem rsIn_mem {gs : List Int} {k : Nat} : ∀ {m : Nat} {x : Int × Int}, x ∈ rsIn gs k m → x.1 = (k : Int) ∧ (0 ≤ x.2 ∧ x.2 < (m : Int)) ∧ rgB gs x.1 x.2 = true
  | 0, x, h => by cases h
  | m + 1, x, h => by
    by_cases hr : rgB gs (k : Int) (m : Int) = true
    · rw [rsIn, if_pos hr] at h
      rcases List.mem_append.1 h with h | h
      · obtain ⟨a, b, c⟩ := rsIn_mem h
        exact ⟨a, ⟨b.1, by omega⟩, c⟩
      · obtain rfl := List.mem_singleton.1 h
        exact ⟨rfl, ⟨by show (0 : Int) ≤ (m : Int); omega, by show (m : Int) < ((m + 1 : Nat) : Int); omega⟩, hr⟩
    · rw [rsIn, if_neg hr] at h
      obtain ⟨a, b, c⟩ := rsIn_mem h
      exact ⟨a, ⟨b.1, by omega⟩, c⟩
theorem rsAll_mem {gs : List Int} : ∀ {k : Nat} {x : Int × Int}, x ∈ rsAll gs k → (0 ≤ x.1 ∧ x.1 < (k : Int)) ∧ (0 ≤ x.2 ∧ x.2 < (gs.length : Int)) ∧ rgB gs x.1 x.2 = true
  | 0, x, h => by cases h
  | k + 1, x, h => by
    rw [rsAll] at h
    rcases List.mem_append.1 h with h | h
    · obtain ⟨a, b, c⟩ := rsAll_mem h
      exact ⟨⟨a.1, by omega⟩, b, c⟩
    · obtain ⟨a, b, c⟩ := rsIn_mem h
      exact ⟨⟨by omega, by omega⟩, b, c⟩
theorem rs_valid {gs : List Int} {x : Int × Int} (h : x ∈ rsAll gs 12) : hsB gs x.1 x.2 = true ∧ rgB gs x.1 x.2 = true := by
  obtain ⟨a, b, c⟩ := rsAll_mem h
  exact ⟨hsB_iff.2 ⟨⟨by omega, by omega⟩, by omega, by omega⟩, c⟩
theorem rg_at {gs : List Int} {h q : Int} (hr : rgB gs h q = true) {k : Nat} (hk : k < 12 * gs.length) : Rg gs h q k := of_decide_eq_true hr k hk
theorem gap_per (gs : List Int) (q : Int) : gapM gs (q + 12 * (gs.length : Int)) = gapM gs q := by
  unfold gapM
  rw [show q + 12 * (gs.length : Int) = q + (gs.length : Int) * 12 by omega, Int.add_mul_emod_self_left]
theorem gap_nx (gs : List Int) (q k : Int) : gapM gs (nxQ gs q + k) = gapM gs (q + 1 + k) := by
  unfold gapM nxQ
  rw [Int.emod_add_emod]
theorem hK_per (h : Int) (n k : Nat) : hK h (12 * n + k) = hK h k := by unfold hK; omega
theorem hK_in2 (h : Int) (k : Nat) : hK (inH h) k = hK h (k + 1) := by unfold hK inH; omega
theorem rg_stays {gs : List Int} (h1 : 1 ≤ gs.length) {h q : Int} (hr : rgB gs h q = true) : rgB gs (inH h) (nxQ gs q) = true := by
  refine decide_eq_true fun k hk => ?_
  unfold Rg
  rw [gap_nx, hK_in2]
  by_cases hk2 : k + 1 < 12 * gs.length
  · have := rg_at hr hk2
    unfold Rg at this
    rw [← this]
    congr 2
    omega
  · have e : k + 1 = 12 * gs.length := by omega
    have := rg_at hr (k := 0) (by omega)
    unfold Rg at this
    rw [show k + 1 + 1 = 12 * gs.length + (0 + 1) by omega, hK_per, ← this]
    have e2 : q + 1 + (k : Int) = q + ((0 : Nat) : Int) + 12 * (gs.length : Int) := by omega
    rw [e2, gap_per]
theorem rg_blow {gs : List Int} (h1 : 1 ≤ gs.length) {h q : Int} (hr : rgB gs h q = true) : gapM gs q % 12 = inH h := by
  have := rg_at hr (k := 0) (by omega)
  unfold Rg at this
  rw [show q + ((0 : Nat) : Int) = q by simp] at this
  rw [this]; unfold hK inH; rfl
/-- n lifts. -/
def lftS (n : Nat) : ByteArray := ⟨(List.replicate n 108).toArray⟩
theorem lftS_zero : lftS 0 = ⟨#[]⟩ := rfl
theorem lftS_succ (n : Nat) : lftS (n + 1) = lftS n ++ ⟨#[108]⟩ := by
  apply ByteArray.ext
  rw [ByteArray.data_append]
  show (List.replicate (n + 1) (108 : UInt8)).toArray = (List.replicate n (108 : UInt8)).toArray ++ #[108]
  rw [List.replicate_succ']
  apply Array.toList_inj.1
  simp only [Array.toList_append]
theorem lftS_size (n : Nat) : (lftS n).size = n := by show ((List.replicate n (108 : UInt8)).toArray).size = n; simp
theorem lftS_at {n j : Nat} (h : j < n) : bY (lftS n) j = 108 := by
  rw [bY_eq (by rw [lftS_size]; exact h)]
  simp [lftS]
theorem lftS_kn (n : Nat) : knB (lftS n) = true := by
  rw [knB_iff]
  intro k hk
  rw [lftS_size] at hk
  rw [lftS_at hk]; rfl
theorem mv_lift {gs : List Int} {h q : Int} (h0 : 0 ≤ q) (h1 : q < (gs.length : Int)) (n : Nat) : ∀ k, k ≤ n → mvS gs (lftS n) h q k = (h, qK gs q k)
  | 0, _ => by rw [mvS, qK_zero h0 h1]
  | k + 1, hk => by
    rw [mvS, mv_lift h0 h1 n k (by omega), lftS_at (by omega)]
    unfold stpB
    rw [if_neg (by decide)]
    rw [if_neg (by decide), qK_succ]
def oneF : ByteArray := ⟨#[102]⟩
theorem oneF_kn : knB oneF = true := by decide
theorem mv_oneF {gs : List Int} (hw : whB gs = true) (h q : Int) : mvS gs oneF h q 1 = (inH h, nxQ gs q) ∧ mvL gs oneF h q 1 = [gapM gs q] := by
  have hb : bY oneF 0 = 102 := rfl
  have hn : mvN gs oneF h q 0 = gapM gs q := by unfold mvN stpN; rw [hb, if_neg (by decide)]; rfl
  have hp : 0 < mvN gs oneF h q 0 := by rw [hn]; exact (gapM_in hw q).1
  refine ⟨?_, ?_⟩
  · rw [mvS, hb]; rfl
  · rw [mvL_pos hp, hn]; rfl
end Go.Proofs.YtfddibdncniekaaDoor
