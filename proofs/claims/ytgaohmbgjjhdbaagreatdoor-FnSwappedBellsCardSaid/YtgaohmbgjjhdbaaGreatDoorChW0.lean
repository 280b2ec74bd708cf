/- Chimes: lists that hold each number from 0 to n - 1 once: plain laws; slices.Clone, and the reference's l00Has, l22Order. -/
import Derived.Test.YtgaohmbgjjhdbaaGreatDoorApA
import Derived.Test.YtgaohmbgjjhdbaaGreatDoorBx
import Derived.Lib.SliceRun
import Derived.Deep.RegionLaw
import Derived.Deep.DrawnRows
import Derived.Deep.RegionHeld3
namespace Go.Proofs.YtgaohmbgjjhdbaaGreatDoor
open Go.RowKit
attribute [local go_sem ↓] Go.wp_at_zero Go.wp_at_succ

def rngI (n : Nat) : List Int := (List.range n).map fun k : Nat => (k : Int)
theorem rngI_length (n : Nat) : (rngI n).length = n := by simp [rngI]
theorem ix_rngI {n k : Nat} (h : k < n) : ix (rngI n) k = k := by rw [ix_eq (by rw [rngI_length]; exact h)]; simp [rngI]
theorem rngI_succ (n : Nat) : rngI (n + 1) = rngI n ++ [(n : Int)] := by simp [rngI, List.range_succ]
theorem mem_rngI {n : Nat} {x : Int} : x ∈ rngI n ↔ 0 ≤ x ∧ x < n := by
  simp only [rngI, List.mem_map, List.mem_range]
  constructor
  · rintro ⟨k, hk, rfl⟩; omega
  · rintro ⟨h1, h2⟩; exact ⟨x.toNat, by omega, by omega⟩
theorem perm_rngI : ∀ (n : Nat) (xs : List Int), xs.length = n → (∀ k : Nat, k < n → (k : Int) ∈ xs) → xs.Perm (rngI n)
  | 0, xs, h, _ => by rw [List.length_eq_zero_iff.1 h]; exact List.Perm.refl _
  | n + 1, xs, h, hm => by
    have h1 : ((n : Nat) : Int) ∈ xs := hm n (by omega)
    have h2 := List.perm_cons_erase h1
    have h3 := perm_rngI n (xs.erase (n : Int)) (by rw [List.length_erase_of_mem h1]; omega) (fun k hk => (List.mem_erase_of_ne (by omega)).2 (hm k (by omega)))
    rw [rngI_succ]
    exact h2.trans ((h3.cons _).trans (List.perm_append_comm (l₁ := [(n : Int)]) (l₂ := rngI n)))
theorem rngI_sorted (n : Nat) : (rngI n).Pairwise (fun a b => a ≤ b) := by
  rw [List.pairwise_iff_getElem]
  intro i j hi hj hij
  simp [rngI]; omega
/-- The numbers in order. -/
def srtI (xs : List Int) : List Int := xs.mergeSort fun x y => decide (x ≤ y)
theorem srtI_length (xs : List Int) : (srtI xs).length = xs.length := List.length_mergeSort xs
theorem srtI_rngI {xs : List Int} {n : Nat} (h : xs.Perm (rngI n)) : srtI xs = rngI n := by
  have s1 : (srtI xs).Pairwise (fun a b => a ≤ b) := by
    have := List.pairwise_mergeSort (le := fun x y : Int => decide (x ≤ y)) (fun a b c h1 h2 => by simp at *; omega) (fun a b => by simp; omega) xs
    refine this.imp ?_
    intro a b h; simpa using h
  exact ((List.mergeSort_perm xs _).trans h).eq_of_pairwise (le := fun a b => a ≤ b) (fun a b _ _ h1 h2 => by omega) s1 (rngI_sorted n)
/-- The list holds each number from 0 to its length, less one, once. -/
def ordP (xs : List Int) : Prop := ∀ k : Nat, k < xs.length → (k : Int) ∈ xs
instance (xs : List Int) : Decidable (ordP xs) := by unfold ordP; infer_instance
theorem ordP_sort {xs : List Int} (h : ordP xs) : srtI xs = rngI xs.length := srtI_rngI (perm_rngI _ _ rfl h)
theorem ordP_perm {xs : List Int} (h : ordP xs) : xs.Perm (rngI xs.length) := perm_rngI _ _ rfl h
def OrdTo (xs : List Int) (k : Nat) : Prop := ∀ j : Nat, j < k → ix xs j = j
theorem OrdTo.zero (xs : List Int) : OrdTo xs 0 := fun _ h => absurd h (Nat.not_lt_zero _)
theorem OrdTo.succ {xs : List Int} {k : Nat} (h : OrdTo xs k) (he : ix xs k = k) : OrdTo xs (k + 1) := fun j hj => by
  rcases Nat.lt_or_ge j k with h3 | h3
  · exact h j h3
  · have : j = k := by omega
    subst this; exact he
theorem sort_ordP {xs : List Int} (h : OrdTo (srtI xs) xs.length) : ordP xs := fun k hk => by
  have hl := srtI_length xs
  have h1 := h k hk
  rw [ix_eq (by omega)] at h1
  rw [← h1]
  exact (List.mergeSort_perm xs _).mem_iff.1 (List.getElem_mem _)
def ordB (xs : List Int) (n : Int) : Bool := decide ((xs.length : Int) = n) && decide (ordP xs)
theorem ordB_iff {xs : List Int} {n : Int} : ordB xs n = true ↔ (xs.length : Int) = n ∧ ordP xs := by simp [ordB]
theorem ord_f1 {xs : List Int} {n : Int} (h : ¬ (xs.length : Int) = n) : ordB xs n = false := by simp [ordB, h]
theorem ord_f2 {xs : List Int} {n : Int} (h : ¬ ordP xs) : ordB xs n = false := by simp [ordB, h]
theorem ord_i {xs : List Int} {n : Int} (h : ordP xs) : ordB xs n = ((xs.length : Int) == n) := by
  by_cases e : (xs.length : Int) = n
  · simp [ordB, h, e]
  · simp [ordB, e]
theorem ord_not {xs : List Int} {k : Nat} (hk : k < xs.length) (h : ¬ ix (srtI xs) k = k) : ¬ ordP xs := fun ho => by
  rw [ordP_sort ho, ix_rngI hk] at h
  exact h rfl
def HasTo (xs : List Int) (k : Nat) : Prop := ∀ j : Nat, j < k → (j : Int) ∈ xs
theorem HasTo.zero (xs : List Int) : HasTo xs 0 := fun _ h => absurd h (Nat.not_lt_zero _)
theorem HasTo.succ {xs : List Int} {k : Nat} (h : HasTo xs k) (he : decide ((k : Int) ∈ xs) = true) : HasTo xs (k + 1) := fun j hj => by
  rcases Nat.lt_or_ge j k with h3 | h3
  · exact h j h3
  · have : j = k := by omega
    subst this; simpa using he

theorem eql_nilO (a : Option Addr) (n c : Nat) (w : World) : (binOp .eql 27 (.slice a n c) (.slice none 0 0)).run Tryz.prog w = .ok (.bool a.isNone) w := Lib.run_eql_slice_nil w _ _ a n c 0 0 Tryz.underlying27
attribute [local go_sem ↓] eql_nilO

theorem own_lit1 {base : Nat} (w : World) (H : Nat) (hH : w.heap.size = H) (hb : base ≤ H) (t : TypeId) : (w.alloc (.cells #[] t)).ownsRow base t 1 (.slice (some ⟨H, 0, none⟩) 0 0) ([] : List Int).length (I64 []) := own_lit w H hH hb t
set_option maxHeartbeats 2000000 in
/-- slices.Clone at whatever slice of numbers. -/
theorem CloneAll_any (v : Value) (xs : List Int) (w : World) (hv : Sl w v xs) (hn : xs.length ≤ 134217728) :
    Calls Tryz.prog 45 #[v] w fun e w' => ∃ v', e = .returned v' ∧ w'.ownsRow w.heap.size 2 1 v' xs.length (I64 xs) ∧ Below w.heap.size w w' := by
  have HV := Lib.hid (hv.below (w' := w.alloc (.cells #[] 2)) (by go_grown))
  have HO := Lib.hid (own_lit1 (base := w.heap.size) w w.heap.size rfl (Nat.le_refl _) 2)
  obtain ⟨A, c, rfl, hac, hac', HA⟩ := hv.open_
  clear hv
  rcases A with _ | A
  · have hx : xs = [] := by
      cases xs with
      | nil => rfl
      | cons y ys => obtain ⟨b, o, e, _⟩ := HA.out 0 (by simp); cases e
    subst hx
    go_enter Tryz.func45, Tryz.ntmps45
    go_wp2
    go_ret
    exact ⟨_, rfl, World.ownsRow_nil _ _ _ _, Below.refl _ _⟩
  · clear HA
    go_enter Tryz.func45, Tryz.ntmps45
    go_wp2_with (at_builtin; refine wpList_appG (by first | rfl | (simp [Region.wanted, yielded]; done)) _ _ rfl w.heap.size _ [] rfl HO.out _ rfl xs HV.out xs rfl (by decide) (by omega) (by simp) ?_; intro v' w1 ho hb hg; have HO1 := Lib.hid ho; have HB1 : Hid (Below w.heap.size w w1) := (Below.trans (by go_grown) hb); clear ho hb hg)
    go_ret
    exact ⟨_, rfl, HO1.out, HB1.out⟩

theorem has_at {xs : List Int} {k : Nat} {x : Int} (hk : k < xs.length) (h : ix xs k = x) : decide (x ∈ xs) = true := by
  subst h; simpa using ix_mem hk
theorem has_no {xs : List Int} {x : Int} (h : ∀ j, j < xs.length → ¬ ix xs j = x) : decide (x ∈ xs) = false := by
  simp only [decide_eq_false_iff_not]
  intro hm
  obtain ⟨k, hk, e⟩ := mem_ix hm
  exact h k hk e
set_option maxHeartbeats 1000000 in
theorem l00Has_any (v : Value) (xs : List Int) (x : Int) (w : World) (hv : Sl w v xs) :
    Calls Tryz.prog 50 #[v, .int .i64 x] w fun e w' => e = .returned (.bool (decide (x ∈ xs))) ∧ w = w' := by
  obtain ⟨A, c, rfl, hac, hac', HA⟩ := hv.open_
  clear hv
  go_enter Tryz.func50, Tryz.ntmps50
  go_wp2
  go_loop [5] (fun i => ∃ k : Nat, k ≤ xs.length ∧ i = .int .i64 k ∧ Hid (∀ j, j < k → ¬ ix xs j = x)) (fun i => xs.length - (intOf i).toNat)
  case atStart => exact ⟨0, Nat.zero_le _, rfl, fun j hj => absurd hj (Nat.not_lt_zero _)⟩
  case round =>
    obtain ⟨k, hk, rfl, hs⟩ := hrel
    by_cases hlt : k < xs.length
    · obtain ⟨ba, oa, rfl, hba, hca⟩ := HA.out k hlt
      have ca := hca k hlt
      have i1 : (k : Int) < (xs.length : Int) := by omega
      clear hca HA
      by_cases he : ix xs k = x
      · have HE := Lib.hid he
        have hbq : (ix xs k == x) = true := by simp [he]
        clear he
        go_wp2
        go_ret
        exact ⟨ret_b (has_at hlt HE.out).symm, rfl⟩
      · have hbq : (ix xs k == x) = false := by simp [he]
        have HE := Lib.hid he
        clear he
        go_wp2
        go_round
        case rel => exact ⟨k + 1, by omega, by go_num, fun j hj => by
          rcases Nat.lt_or_ge j k with h3 | h3
          · exact hs.out j h3
          · obtain rfl : j = k := by omega
            exact HE.out⟩
        case measure => simp [intOf]; omega
    · obtain rfl : k = xs.length := by omega
      go_wp2
      go_ret
      exact ⟨ret_b (has_no hs.out).symm, rfl⟩

theorem ord_s {xs : List Int} {n : Int} {k : Nat} (hl : (xs.length : Int) = n) (hk : (k : Int) < n) (h : decide ((k : Int) ∈ xs) = false) : ordB xs n = false :=
  ord_f2 fun ho => by simp at h; exact h (ho k (by omega))
set_option maxHeartbeats 1000000 in
theorem l22Order_any (v : Value) (xs : List Int) (n : Int) (w : World) (hv : Sl w v xs) :
    Calls Tryz.prog 26 #[v, .int .i64 n] w fun e w' => e = .returned (.bool (ordB xs n)) ∧ w = w' := by
  have HV := Lib.hid hv
  obtain ⟨A, c, rfl, hac, hac', HA⟩ := hv.open_
  clear hv HA
  by_cases hl : (xs.length : Int) = n
  · have hq : ((xs.length : Int) != n) = false := by simp [hl]
    have HL := Lib.hid hl
    have hn0 : 0 ≤ n := by omega
    have hn1 : n ≤ 9223372036854775807 := by omega
    clear hl
    go_enter Tryz.func26, Tryz.ntmps26
    go_wp2
    go_loop [5] (fun i => ∃ k : Nat, (k : Int) ≤ n ∧ i = .int .i64 k ∧ Hid (HasTo xs k)) (fun i => n.toNat - (intOf i).toNat)
    case atStart => exact ⟨0, by omega, rfl, HasTo.zero _⟩
    case round =>
      obtain ⟨k, hk, rfl, hs⟩ := hrel
      by_cases hlt : (k : Int) < n
      · go_wp2_with fail
        refine (l00Has_any _ xs (k : Int) _ HV.out).mono ?_
        rintro e w' ⟨rfl, rfl⟩
        rcases Bool.eq_false_or_eq_true (decide ((k : Int) ∈ xs)) with hm | hm
        · rw [hm]
          have HM := Lib.hid hm
          clear hm
          go_wp2
          go_round
          case rel => exact ⟨k + 1, by omega, by go_num, hs.out.succ HM.out⟩
          case measure => simp [intOf]; omega
        · rw [hm]
          have HM := Lib.hid hm
          clear hm
          go_wp2
          go_ret
          exact ⟨ret_b (ord_s HL.out hlt HM.out).symm, rfl⟩
      · go_wp2
        go_ret
        exact ⟨ret_b (ordB_iff.2 ⟨HL.out, fun j hj => hs.out j (by have := HL.out; omega)⟩).symm, rfl⟩
  · have hq : ((xs.length : Int) != n) = true := by simp [hl]
    have HL := Lib.hid hl
    clear hl
    go_enter Tryz.func26, Tryz.ntmps26
    go_wp2
    go_ret
    exact ⟨ret_b (ord_f1 HL.out).symm, rfl⟩
end Go.Proofs.YtgaohmbgjjhdbaaGreatDoor
