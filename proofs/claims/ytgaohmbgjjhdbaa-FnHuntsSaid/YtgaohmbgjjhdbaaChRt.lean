/- Chimes: whether rows are true (TrueRows), in the program and in the reference. -/
import Derived.Test.YtgaohmbgjjhdbaaChR
namespace Go.Proofs.Ytgaohmbgjjhdbaa
open Go.RowKit
attribute [local go_sem ↓] Go.wp_at_zero Go.wp_at_succ
attribute [local go_sem] cell?_grow frozen?_grow

set_option maxHeartbeats 1000000 in
theorem EqualN_any (va vb : Value) (xs ys : List Int) (w : World) (ha : Sl w va xs) (hb : Sl w vb ys) :
    Calls Try.prog 51 #[va, vb] w fun e w' => e = .returned (.bool (eqL xs ys)) ∧ ∃ n, w' = w.drewN n := by
  obtain ⟨A, c, rfl, hac, hac', HA⟩ := ha.open_
  obtain ⟨B, d, rfl, hbd, hbd', HB⟩ := hb.open_
  by_cases hl : xs.length = ys.length
  · have HL := Lib.hid hl
    have h1 : ((xs.length : Int) != (ys.length : Int)) = false := by simp [hl]
    clear hl
    go_enter Try.func51, Try.ntmps51
    go_wp2
    go_loopw [13] (fun i wr => ∃ k : Nat, k ≤ xs.length ∧ i = .int .i64 k ∧ SameTo xs ys k ∧ ∃ n, wr = w.drewN n) (fun i _ => xs.length - (intOf i).toNat)
    case atStart => exact ⟨0, Nat.zero_le _, rfl, SameTo.zero _ _, 0, rfl⟩
    case round =>
      obtain ⟨k, hk, rfl, hs, n, rfl⟩ := hrel
      by_cases hlt : k < xs.length
      · obtain ⟨ba, oa, rfl, hba, hca⟩ := HA.out k hlt
        obtain ⟨bb, ob, rfl, hbb, hcb⟩ := HB.out k (by have := HL.out; omega)
        have ca := hca k hlt
        have cb := hcb k (by have := HL.out; omega)
        have hlt' : k < ys.length := by have := HL.out; omega
        have i1 : (k : Int) < (xs.length : Int) := by omega
        have i2 : (k : Int) < (ys.length : Int) := by omega
        clear hca hcb HA HB
        by_cases he : ix xs k = ix ys k
        · have hbq : (ix xs k != ix ys k) = false := by simp [he]
          have HE := Lib.hid he
          clear he
          go_wp2
          go_quiet (fail)
          go_wp2
          go_roundw
          case rel => exact ⟨k + 1, by omega, by go_num, hs.succ HE.out, _, rfl⟩
          case measure => simp [intOf]; omega
        · have hbq : (ix xs k != ix ys k) = true := by simp [he]
          have HE := Lib.hid he
          clear he
          go_wp2
          go_quiet (fail)
          go_wp2
          go_ret
          exact ⟨ret_b (eqL_at HE.out).symm, _, World.drewN_drewN _ _ _⟩
      · go_wp2
        go_ret
        exact ⟨ret_b (hs.eqL HL.out (by omega)).symm, n, rfl⟩
  · have h1 : ((xs.length : Int) != (ys.length : Int)) = true := by simp; omega
    go_enter Try.func51, Try.ntmps51
    go_wp2
    go_ret
    exact ⟨ret_b (eqL_len hl).symm, 0, rfl⟩

set_option maxHeartbeats 1000000 in
theorem l00Same_any (va vb : Value) (xs ys : List Int) (w : World) (ha : Sl w va xs) (hb : Sl w vb ys) :
    Calls Try.prog 49 #[va, vb] w fun e w' => e = .returned (.bool (eqL xs ys)) ∧ ∃ n, w' = w.drewN n := by
  obtain ⟨A, c, rfl, hac, hac', HA⟩ := ha.open_
  obtain ⟨B, d, rfl, hbd, hbd', HB⟩ := hb.open_
  by_cases hl : xs.length = ys.length
  · have HL := Lib.hid hl
    have h1 : ((xs.length : Int) != (ys.length : Int)) = false := by simp [hl]
    clear hl
    go_enter Try.func49, Try.ntmps49
    go_wp2
    go_loopw [5] (fun i wr => ∃ k : Nat, k ≤ xs.length ∧ i = .int .i64 k ∧ SameTo xs ys k ∧ ∃ n, wr = w.drewN n) (fun i _ => xs.length - (intOf i).toNat)
    case atStart => exact ⟨0, Nat.zero_le _, rfl, SameTo.zero _ _, 0, rfl⟩
    case round =>
      obtain ⟨k, hk, rfl, hs, n, rfl⟩ := hrel
      by_cases hlt : k < xs.length
      · obtain ⟨ba, oa, rfl, hba, hca⟩ := HA.out k hlt
        obtain ⟨bb, ob, rfl, hbb, hcb⟩ := HB.out k (by have := HL.out; omega)
        have ca := hca k hlt
        have cb := hcb k (by have := HL.out; omega)
        have hlt' : k < ys.length := by have := HL.out; omega
        have i1 : (k : Int) < (xs.length : Int) := by omega
        have i2 : (k : Int) < (ys.length : Int) := by omega
        clear hca hcb HA HB
        by_cases he : ix xs k = ix ys k
        · have hbq : (ix xs k != ix ys k) = false := by simp [he]
          have HE := Lib.hid he
          clear he
          go_wp2
          go_quiet (fail)
          go_wp2
          go_roundw
          case rel => exact ⟨k + 1, by omega, by go_num, hs.succ HE.out, _, rfl⟩
          case measure => simp [intOf]; omega
        · have hbq : (ix xs k != ix ys k) = true := by simp [he]
          have HE := Lib.hid he
          clear he
          go_wp2
          go_quiet (fail)
          go_wp2
          go_ret
          exact ⟨ret_b (eqL_at HE.out).symm, _, World.drewN_drewN _ _ _⟩
      · go_wp2
        go_ret
        exact ⟨ret_b (hs.eqL HL.out (by omega)).symm, n, rfl⟩
  · have h1 : ((xs.length : Int) != (ys.length : Int)) = true := by simp; omega
    go_enter Try.func49, Try.ntmps49
    go_wp2
    go_ret
    exact ⟨ret_b (eqL_len hl).symm, 0, rfl⟩

theorem idx_at {xs : List Int} {x : Int} : ∀ {k : Nat}, k < xs.length → (∀ j, j < k → ¬ ix xs j = x) → ix xs k = x → xs.idxOf x = k := by
  intro k hk hn he
  have hm : x ∈ xs := he ▸ ix_mem hk
  have hi := List.idxOf_lt_length_of_mem hm
  have h1 : ix xs (xs.idxOf x) = x := by rw [ix_eq hi]; exact List.getElem_idxOf hi
  rcases Nat.lt_trichotomy (xs.idxOf x) k with h | h | h
  · exact absurd h1 (hn _ h)
  · exact h
  · have := List.not_of_lt_findIdx (p := (· == x)) (xs := xs) (show k < xs.findIdx (· == x) from h)
    rw [ix_eq hk] at he
    simp [he] at this
set_option maxHeartbeats 1000000 in
/-- slices.Index where the number is there. -/
theorem IndexN_any (v : Value) (xs : List Int) (x : Int) (w : World) (hv : Sl w v xs) (hx : x ∈ xs) :
    Calls Try.prog 53 #[v, .int .i64 x] w fun e w' => e = .returned (.int .i64 (xs.idxOf x : Int)) ∧ w = w' := by
  obtain ⟨A, c, rfl, hac, hac', HA⟩ := hv.open_
  have HX := Lib.hid hx
  clear hv hx
  go_enter Try.func53, Try.ntmps53
  go_wp2
  go_loop [8] (fun i => ∃ k : Nat, k ≤ xs.length ∧ i = .int .i64 k ∧ Hid (∀ j, j < k → ¬ ix xs j = x)) (fun i => xs.length - (intOf i).toNat)
  case atStart => exact ⟨0, Nat.zero_le _, rfl, fun j hj => absurd hj (Nat.not_lt_zero _)⟩
  case round =>
    obtain ⟨k, hk, rfl, hs⟩ := hrel
    by_cases hlt : k < xs.length
    · obtain ⟨ba, oa, rfl, hba, hca⟩ := HA.out k hlt
      have ca := hca k hlt
      have i1 : (k : Int) < (xs.length : Int) := by omega
      clear hca HA
      by_cases he : ix xs k = x
      · have HE := Lib.hid he
        have hbq : (x == ix xs k) = true := by simp [he]
        clear he
        go_wp2
        go_ret
        exact ⟨ret_i (by rw [idx_at hlt hs.out HE.out]), rfl⟩
      · have hbq : (x == ix xs k) = false := by simp only [beq_eq_false_iff_ne, ne_eq]; exact fun e => he e.symm
        have HE := Lib.hid he
        clear he
        go_wp2
        go_round
        case rel => exact ⟨k + 1, by omega, by go_num, fun j hj => by
          rcases Nat.lt_or_ge j k with h3 | h3
          · exact hs.out j h3
          · obtain rfl : j = k := by omega
            exact HE.out⟩
        case measure => simp [intOf]; omega
    · exfalso
      obtain ⟨k', hk', e⟩ := mem_ix HX.out
      exact hs.out k' (by omega) e
set_option maxHeartbeats 400000 in
theorem abs_any (a : Int) (w : World) (h1 : -1000000 ≤ a) (h2 : a ≤ 1000000) :
    Calls Try.prog 52 #[.int .i64 a] w fun e w' => e = .returned (.int .i64 (if a < 0 then -a else a)) ∧ w = w' := by
  by_cases h : a < 0
  · rw [if_pos h]
    have e1 : IntKind.i64.wrap (-a) = -a := IntWalk.i64_in _ (by omega)
    go_enter Try.func52, Try.ntmps52
    go_wp2
    go_ret
    exact ⟨by first | rfl | simp [e1], rfl⟩
  · rw [if_neg h]
    go_enter Try.func52, Try.ntmps52
    go_wp2
    go_ret
    exact ⟨rfl, rfl⟩

/-- Whether a bell rings at most one place beside place a in the row before. -/
def nearB (b : List Int) (x : Int) (a : Nat) : Bool := decide (ix b a = x) || (decide (0 < a) && decide (ix b (a - 1) = x) || decide (a + 1 < b.length) && decide (ix b (a + 1) = x))
theorem nodup_ord {b : List Int} (h : ordP b) : b.Nodup := by
  have h1 : (rngI b.length).Nodup := by
    rw [List.nodup_iff_pairwise_ne]
    rw [List.pairwise_iff_getElem]
    intro i j hi hj hij
    simp [rngI]; omega
  exact (ordP_perm h).nodup_iff.2 h1
theorem near_i {b : List Int} {x : Int} {a : Nat} (h : ordP b) (hx : x ∈ b) (ha : a < b.length) : decide (1 < (if (b.idxOf x : Int) - (a : Int) < 0 then -((b.idxOf x : Int) - (a : Int)) else (b.idxOf x : Int) - (a : Int))) = !(nearB b x a) := by
  have hi := List.idxOf_lt_length_of_mem hx
  have h1 : ix b (b.idxOf x) = x := by rw [ix_eq hi]; exact List.getElem_idxOf hi
  have inj : ∀ p, p < b.length → (ix b p = x ↔ p = b.idxOf x) := fun p hp => by
    constructor
    · intro e
      rw [ix_eq hp] at e
      rw [ix_eq hi] at h1
      have := (List.getElem_inj (nodup_ord h)).1 (e.trans h1.symm)
      exact this
    · rintro rfl; exact h1
  have d0 : decide (ix b a = x) = decide (a = b.idxOf x) := by simp only [inj a ha]
  have d1 : (decide (0 < a) && decide (ix b (a - 1) = x)) = (decide (0 < a) && decide (a - 1 = b.idxOf x)) := by
    by_cases h0 : 0 < a
    · simp only [inj (a - 1) (by omega)]
    · simp [h0]
  have d2 : (decide (a + 1 < b.length) && decide (ix b (a + 1) = x)) = (decide (a + 1 < b.length) && decide (a + 1 = b.idxOf x)) := by
    by_cases h0 : a + 1 < b.length
    · simp only [inj (a + 1) h0]
    · simp [h0]
  unfold nearB
  rw [d0, d1, d2]
  generalize b.idxOf x = q at *
  rw [Bool.eq_iff_iff]
  simp
  split <;> omega
def DupTo (R : List (List Int)) (k j : Nat) : Prop := ∀ i, i < j → eqL (rx R k) (rx R i) = false
def NearTo (R : List (List Int)) (k a : Nat) : Prop := ∀ p, p < a → nearB (rx R (k - 1)) (ix (rx R k) p) p = true
theorem DupTo.zero (R : List (List Int)) (k : Nat) : DupTo R k 0 := fun _ h => absurd h (Nat.not_lt_zero _)
theorem DupTo.succ {R : List (List Int)} {k j : Nat} (h : DupTo R k j) (he : eqL (rx R k) (rx R j) = false) : DupTo R k (j + 1) := fun i hi => by
  rcases Nat.lt_or_ge i j with h3 | h3
  · exact h i h3
  · have : i = j := by omega
    subst this; exact he
theorem NearTo.zero (R : List (List Int)) (k : Nat) : NearTo R k 0 := fun _ h => absurd h (Nat.not_lt_zero _)
theorem NearTo.succ {R : List (List Int)} {k a : Nat} (h : NearTo R k a) (he : nearB (rx R (k - 1)) (ix (rx R k) a) a = true) : NearTo R k (a + 1) := fun i hi => by
  rcases Nat.lt_or_ge i a with h3 | h3
  · exact h i h3
  · have : i = a := by omega
    subst this; exact he
def GoodRow (R : List (List Int)) (k : Nat) : Prop := DupTo R k k ∧ (0 < k → NearTo R k (rx R k).length)
def GoodTo (R : List (List Int)) (k : Nat) : Prop := ∀ i, i < k → GoodRow R i
instance (R : List (List Int)) (k : Nat) : Decidable (GoodTo R k) := by unfold GoodTo GoodRow DupTo NearTo; infer_instance
theorem GoodTo.zero (R : List (List Int)) : GoodTo R 0 := fun _ h => absurd h (Nat.not_lt_zero _)
theorem GoodTo.succ {R : List (List Int)} {k : Nat} (h : GoodTo R k) (he : GoodRow R k) : GoodTo R (k + 1) := fun i hi => by
  rcases Nat.lt_or_ge i k with h3 | h3
  · exact h i h3
  · have : i = k := by omega
    subst this; exact he
/-- Whether rows are true. -/
def trueB (R : List (List Int)) : Bool := rowK R && decide (GoodTo R R.length)
theorem tr_f {R : List (List Int)} (h : rowK R = false) : trueB R = false := by simp [trueB, h]
theorem tr_t {R : List (List Int)} (h : rowK R = true) (hg : GoodTo R R.length) : trueB R = true := by simp [trueB, h, hg]
theorem tr_dup {R : List (List Int)} {k j : Nat} (hk : k < R.length) (hj : j < k) (h : eqL (rx R k) (rx R j) = true) : trueB R = false := by
  simp only [trueB, Bool.and_eq_false_iff, decide_eq_false_iff_not]
  exact Or.inr fun hg => by have := (hg k hk).1 j hj; rw [h] at this; cases this
theorem tr_near {R : List (List Int)} {k a : Nat} (hk : k < R.length) (hk0 : 0 < k) (ha : a < (rx R k).length) (h : nearB (rx R (k - 1)) (ix (rx R k) a) a = false) : trueB R = false := by
  simp only [trueB, Bool.and_eq_false_iff, decide_eq_false_iff_not]
  exact Or.inr fun hg => by have := (hg k hk).2 hk0 a ha; rw [h] at this; cases this
/-- What such rows are to each other. -/
theorem row_facts {R : List (List Int)} (h : rowK R = true) {k : Nat} (hk : k < R.length) : (rx R k).length = (rx R 0).length ∧ ordP (rx R k) ∧ (rx R 0).length ≤ 8 := by
  obtain ⟨_, h2, h3⟩ := rowK_iff.1 h
  obtain ⟨h4, h5⟩ := ordB_iff.1 (h3 k hk)
  exact ⟨by omega, h5, h2.2⟩
theorem row_mem {R : List (List Int)} (h : rowK R = true) {k a : Nat} (hk : k < R.length) (ha : a < (rx R k).length) : ix (rx R k) a ∈ rx R (k - 1) := by
  obtain ⟨h1, h2, _⟩ := row_facts h hk
  obtain ⟨h3, h4, _⟩ := row_facts h (k := k - 1) (by omega)
  have hm := (ordP_perm h2).mem_iff.1 (ix_mem ha)
  rw [h1, ← h3] at hm
  exact (ordP_perm h4).mem_iff.2 hm
end Go.Proofs.Ytgaohmbgjjhdbaa
