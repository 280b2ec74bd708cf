/- Dividing heads: which motions are valid, in the program and in the reference. -/
import Derived.Test.YtlfahiaoekcepaaDvV
namespace Go.Proofs.Ytlfahiaoekcepaa
open Go.RowKit
attribute [local go_sem ↓] Go.wp_at_zero Go.wp_at_succ
attribute [local go_sem] cell?_grow frozen?_grow

theorem l00In_r (n lo hi : Int) (b : Bool) (w : World) (h : inB n lo hi = b) :
    Calls Try.prog 43 #[.int .i64 n, .int .i64 lo, .int .i64 hi] w fun e w' => e = .returned (.bool b) ∧ w = w' :=
  (l00In_any n lo hi w).mono fun _ _ ⟨he, hw⟩ => ⟨by rw [he, h], hw⟩
/-- Where x first stands; -1 where it does not. -/
def IsIdx (xs : List Int) (x r : Int) : Prop := (r = -1 ∧ ¬ x ∈ xs) ∨ ∃ k : Nat, r = (k : Int) ∧ k < xs.length ∧ ix xs k = x ∧ ∀ j, j < k → ¬ ix xs j = x
theorem not_mem_ix {xs : List Int} {x : Int} (h : ∀ j, j < xs.length → ¬ ix xs j = x) : ¬ x ∈ xs := fun hm => by
  obtain ⟨j, hj, he⟩ := mem_ix hm
  exact h j hj he
def hasB (xs : List Int) (x : Int) : Bool := decide (x ∈ xs)
theorem hasB_t {xs : List Int} {x : Int} (h : x ∈ xs) : hasB xs x = true := decide_eq_true h
theorem hasB_f {xs : List Int} {x : Int} (h : ¬ x ∈ xs) : hasB xs x = false := decide_eq_false h
theorem hasB_iff {xs : List Int} {x : Int} : hasB xs x = true ↔ x ∈ xs := by simp [hasB]
theorem idx_has {xs : List Int} {x r : Int} (h : IsIdx xs x r) : hasB xs x = decide (0 ≤ r) := by
  rcases h with ⟨rfl, h⟩ | ⟨k, rfl, h1, h2, _⟩
  · rw [hasB_f h]; rfl
  · rw [hasB_t (h2 ▸ ix_mem h1), decide_eq_true (by omega)]
theorem idx_in {xs : List Int} {x r : Int} (h : IsIdx xs x r) : -1 ≤ r ∧ r < xs.length := by
  rcases h with ⟨rfl, _⟩ | ⟨k, rfl, h1, _, _⟩
  · omega
  · omega
/-- The first k are other than x. -/
def NoneTo (xs : List Int) (x : Int) (k : Nat) : Prop := ∀ j, j < k → ¬ ix xs j = x
theorem NoneTo.zero (xs : List Int) (x : Int) : NoneTo xs x 0 := fun _ h => absurd h (Nat.not_lt_zero _)
theorem NoneTo.succ {xs : List Int} {x : Int} {k : Nat} (h : NoneTo xs x k) (he : ¬ ix xs k = x) : NoneTo xs x (k + 1) := fun j hj => by
  rcases Nat.lt_or_ge j k with h1 | h1
  · exact h j h1
  · have : j = k := by omega
    subst this; exact he

set_option maxHeartbeats 1000000 in
theorem Index_any (v : Value) (xs : List Int) (x : Int) (w : World) (hv : Sl w v xs) :
    Calls Try.prog 59 #[v, .int .i64 x] w fun e w' => (∃ r, e = .returned (.int .i64 r) ∧ IsIdx xs x r) ∧ w = w' := by
  obtain ⟨A, c, rfl, hac, hac', HA⟩ := hv.open_
  clear hv
  go_enter Try.func59, Try.ntmps59
  go_wp2_with fail
  go_loop [8] (fun i => ∃ k : Nat, k ≤ xs.length ∧ i = .int .i64 k ∧ NoneTo xs x k) (fun i => xs.length - (intOf i).toNat)
  case atStart => exact ⟨0, Nat.zero_le _, rfl, NoneTo.zero _ _⟩
  case round =>
    obtain ⟨k, hk, rfl, hn⟩ := hrel
    have HN := Lib.hid hn
    clear hn
    by_cases hlt : k < xs.length
    · obtain ⟨ba, oa, rfl, hba, hca⟩ := HA.out k hlt
      have ca := hca k hlt
      clear hca HA
      by_cases he : ix xs k = x
      · have hb : (x == ix xs k) = true := by simp [he]
        have HE := Lib.hid he
        clear he
        go_wp2
        go_ret
        exact ⟨⟨_, rfl, .inr ⟨k, rfl, hlt, HE.out, HN.out⟩⟩, rfl⟩
      · have hb : (x == ix xs k) = false := by simp; omega
        have HE := Lib.hid he
        clear he
        go_wp2
        go_round
        case rel => exact ⟨k + 1, by omega, by go_num, HN.out.succ HE.out⟩
        case measure => simp [intOf]; omega
    · go_wp2
      go_ret
      exact ⟨⟨_, rfl, .inl ⟨rfl, not_mem_ix fun j hj => HN.out j (by omega)⟩⟩, rfl⟩
set_option maxHeartbeats 1000000 in
theorem Contains_any (v : Value) (xs : List Int) (x : Int) (w : World) (hv : Sl w v xs) :
    Calls Try.prog 41 #[v, .int .i64 x] w fun e w' => e = .returned (.bool (hasB xs x)) ∧ w = w' := by
  have H1 := Lib.hid (Index_any v xs x w hv)
  clear hv
  go_enter Try.func41, Try.ntmps41
  go_wp2_with fail
  refine H1.out.mono ?_
  rintro e w' ⟨⟨r, rfl, hr⟩, rfl⟩
  have HR := Lib.hid (idx_has hr)
  clear hr
  go_wp2
  go_ret
  exact ⟨ret_b HR.out.symm, rfl⟩
set_option maxHeartbeats 1000000 in
theorem l00Has_any (v : Value) (xs : List Int) (x : Int) (w : World) (hv : Sl w v xs) :
    Calls Try.prog 51 #[v, .int .i64 x] w fun e w' => e = .returned (.bool (hasB xs x)) ∧ w = w' := by
  obtain ⟨A, c, rfl, hac, hac', HA⟩ := hv.open_
  clear hv
  go_enter Try.func51, Try.ntmps51
  go_wp2_with fail
  go_loop [5] (fun i => ∃ k : Nat, k ≤ xs.length ∧ i = .int .i64 k ∧ NoneTo xs x k) (fun i => xs.length - (intOf i).toNat)
  case atStart => exact ⟨0, Nat.zero_le _, rfl, NoneTo.zero _ _⟩
  case round =>
    obtain ⟨k, hk, rfl, hn⟩ := hrel
    have HN := Lib.hid hn
    clear hn
    by_cases hlt : k < xs.length
    · obtain ⟨ba, oa, rfl, hba, hca⟩ := HA.out k hlt
      have ca := hca k hlt
      clear hca HA
      by_cases he : ix xs k = x
      · have hb : (ix xs k == x) = true := by simp [he]
        have HE := Lib.hid (hasB_t (he ▸ ix_mem hlt))
        clear he
        go_wp2
        go_ret
        exact ⟨ret_b HE.out.symm, rfl⟩
      · have hb : (ix xs k == x) = false := by simp; omega
        have HE := Lib.hid he
        clear he
        go_wp2
        go_round
        case rel => exact ⟨k + 1, by omega, by go_num, HN.out.succ HE.out⟩
        case measure => simp [intOf]; omega
    · have HE := Lib.hid (hasB_f (not_mem_ix fun j hj => HN.out j (by omega)))
      go_wp2
      go_ret
      exact ⟨ret_b HE.out.symm, rfl⟩

/-- A valid motion. -/
def xiB (wm : Int) (cs : List Int) (xt xh xc : Int) : Bool := dvB wm cs && (hasB cs xc && (inB xt 0 wm && (inB xh 0 (xc - 1) && inB (xt * xc + xh) 1 (wm * xc))))
theorem xi1 {wm : Int} {cs : List Int} {xt xh xc : Int} (h : dvB wm cs = false) : xiB wm cs xt xh xc = false := by simp [xiB, h]
theorem xi2 {wm : Int} {cs : List Int} {xt xh xc : Int} (h : hasB cs xc = false) : xiB wm cs xt xh xc = false := by simp [xiB, h]
theorem xi3 {wm : Int} {cs : List Int} {xt xh xc : Int} (h : inB xt 0 wm = false) : xiB wm cs xt xh xc = false := by simp [xiB, h]
theorem xi4 {wm : Int} {cs : List Int} {xt xh xc : Int} (h : inB xh 0 (xc - 1) = false) : xiB wm cs xt xh xc = false := by simp [xiB, h]
theorem xi5 {wm : Int} {cs : List Int} {xt xh xc : Int} (h1 : dvB wm cs = true) (h2 : hasB cs xc = true) (h3 : inB xt 0 wm = true) (h4 : inB xh 0 (xc - 1) = true) : xiB wm cs xt xh xc = inB (xt * xc + xh) 1 (wm * xc) := by simp [xiB, h1, h2, h3, h4]
theorem xi_iff {wm : Int} {cs : List Int} {xt xh xc : Int} : xiB wm cs xt xh xc = true ↔ dvB wm cs = true ∧ hasB cs xc = true ∧ inB xt 0 wm = true ∧ inB xh 0 (xc - 1) = true ∧ inB (xt * xc + xh) 1 (wm * xc) = true := by simp [xiB]
theorem mul_in {a b A B : Int} (h1 : 0 ≤ a) (h2 : a ≤ A) (h3 : 0 ≤ b) (h4 : b ≤ B) : 0 ≤ a * b ∧ a * b ≤ A * B :=
  ⟨Int.mul_nonneg h1 h3, Int.le_trans (Int.mul_le_mul_of_nonneg_right h2 h3) (Int.mul_le_mul_of_nonneg_left h4 (by omega))⟩

set_option maxHeartbeats 1000000 in
theorem stepOf_any (xt xh xc : Int) (w : World) (h1 : 0 ≤ xt * xc) (h2 : xt * xc ≤ 1000000000) (h3 : 0 ≤ xh) (h4 : xh ≤ 1000000000) :
    Calls Try.prog 42 #[.agg #[.int .i64 xt, .int .i64 xh, .int .i64 xc]] w fun e w' => e = .returned (.int .i64 (xt * xc + xh)) ∧ Below w.heap.size w w' := by
  go_enter Try.func42, Try.ntmps42
  go_wp2
  go_ret
  exact ⟨rfl, by go_grown⟩
set_option maxHeartbeats 1000000 in
theorem l24Step_any (xt xh xc : Int) (w : World) (h1 : 0 ≤ xt * xc) (h2 : xt * xc ≤ 1000000000) (h3 : 0 ≤ xh) (h4 : xh ≤ 1000000000) :
    Calls Try.prog 44 #[.agg #[.int .i64 xt, .int .i64 xh, .int .i64 xc]] w fun e w' => e = .returned (.int .i64 (xt * xc + xh)) ∧ Below w.heap.size w w' := by
  go_enter Try.func44, Try.ntmps44
  go_wp2
  go_ret
  exact ⟨rfl, by go_grown⟩
end Go.Proofs.Ytlfahiaoekcepaa
