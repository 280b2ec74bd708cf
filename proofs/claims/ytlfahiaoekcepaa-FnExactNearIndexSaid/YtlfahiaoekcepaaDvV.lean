/- Dividing heads: which heads are valid, in the program and in the reference. -/
import Derived.Test.YtlfahiaoekcepaaBx
import Derived.Test.YtlfahiaoekcepaaCpy
import Derived.Handy
import Derived.Deep.RegionHeld3
import Derived.Deep.DrawnRows
namespace Go.Proofs.Ytlfahiaoekcepaa
open Go.RowKit
attribute [local go_sem ↓] Go.wp_at_zero Go.wp_at_succ

/-- The first k circles lie within 2 and 200 and rise. -/
def UpTo (cs : List Int) (k : Nat) : Prop := ∀ j, j < k → (2 ≤ ix cs j ∧ ix cs j ≤ 200) ∧ (0 < j → ix cs (j - 1) < ix cs j)
instance (cs : List Int) (k : Nat) : Decidable (UpTo cs k) := inferInstanceAs (Decidable (∀ j, j < k → (2 ≤ ix cs j ∧ ix cs j ≤ 200) ∧ (0 < j → ix cs (j - 1) < ix cs j)))
theorem UpTo.zero (cs : List Int) : UpTo cs 0 := fun _ h => absurd h (Nat.not_lt_zero _)
theorem UpTo.succ {cs : List Int} {k : Nat} (h : UpTo cs k) (h1 : inB (ix cs k) 2 200 = true) (h2 : 0 < k → ix cs (k - 1) < ix cs k) : UpTo cs (k + 1) := fun j hj => by
  rcases Nat.lt_or_ge j k with h3 | h3
  · exact h j h3
  · have : j = k := by omega
    subst this; exact ⟨inB_iff.1 h1, h2⟩
def risesB (cs : List Int) : Bool := decide (UpTo cs cs.length)
theorem rises_t {cs : List Int} {k : Nat} (h : UpTo cs k) (hk : cs.length ≤ k) : risesB cs = true := decide_eq_true fun j hj => h j (by omega)
theorem rises_f1 {cs : List Int} {k : Nat} (hk : k < cs.length) (h : inB (ix cs k) 2 200 = false) : risesB cs = false := decide_eq_false fun e => by
  have := (e k hk).1
  rw [inB_t this.1 this.2] at h
  cases h
theorem rises_f2 {cs : List Int} {k : Nat} (hk : k < cs.length) (h0 : 0 < k) (h : ix cs k ≤ ix cs (k - 1)) : risesB cs = false := decide_eq_false fun e => by
  have := (e k hk).2 h0
  omega
/-- A valid dividing head. -/
def dvB (wm : Int) (cs : List Int) : Bool := inB wm 1 360 && (inB cs.length 1 20 && risesB cs)
theorem dvB_iff {wm : Int} {cs : List Int} : dvB wm cs = true ↔ (1 ≤ wm ∧ wm ≤ 360) ∧ (1 ≤ cs.length ∧ cs.length ≤ 20) ∧ UpTo cs cs.length := by
  simp only [dvB, Bool.and_eq_true, inB_iff, risesB, decide_eq_true_eq]
  constructor
  · rintro ⟨h1, h2, h3⟩; exact ⟨h1, by omega, h3⟩
  · rintro ⟨h1, h2, h3⟩; exact ⟨h1, by omega, h3⟩
theorem circle_in {wm : Int} {cs : List Int} (h : dvB wm cs = true) {c : Int} (hc : c ∈ cs) : 2 ≤ c ∧ c ≤ 200 := by
  obtain ⟨j, hj, rfl⟩ := mem_ix hc
  exact ((dvB_iff.1 h).2.2 j hj).1
theorem inB20 {n : Nat} : inB (n : Int) 1 20 = (decide ((1 : Int) ≤ (n : Int)) && decide ((n : Int) ≤ 20)) := rfl
theorem dv_or {wm : Int} {cs : List Int} (h : risesB cs = false) : dvB wm cs = false := by simp [dvB, h]
theorem dv_worm {wm : Int} {cs : List Int} (h : inB wm 1 360 = false) : dvB wm cs = false := by simp [dvB, h]
theorem dv_len {wm : Int} {cs : List Int} (h : inB (cs.length : Int) 1 20 = false) : dvB wm cs = false := by simp [dvB, h]
theorem dv_all {wm : Int} {cs : List Int} (h1 : inB wm 1 360 = true) (h2 : inB (cs.length : Int) 1 20 = true) : dvB wm cs = risesB cs := by simp [dvB, h1, h2]

set_option maxHeartbeats 4000000 in
theorem ValidDivider_i (v : Value) (cs : List Int) (wm : Int) (w : World) (hv : Sl w v cs) :
    Calls Try.prog 14 #[.agg #[.int .i64 wm, v]] w fun e w' => e = .returned (.bool (dvB wm cs)) ∧ Below w.heap.size w w' := by
  obtain ⟨A, c, rfl, hac, hac', HA⟩ := hv.open_
  clear hv
  go_enter Try.func14, Try.ntmps14
  go_wp2_with fail
  go_loop [8] (fun i => ∃ k : Nat, k ≤ cs.length ∧ i = .int .i64 k ∧ UpTo cs k) (fun i => cs.length - (intOf i).toNat)
  case atStart => exact ⟨0, Nat.zero_le _, rfl, UpTo.zero _⟩
  case round =>
    obtain ⟨k, hk, rfl, hup⟩ := hrel
    by_cases hlt : k < cs.length
    · obtain ⟨ba, oa, rfl, hba, hca⟩ := HA.out k hlt
      have ca := hca k hlt
      have HU := Lib.hid hup
      clear hup
      cases hb : inB (ix cs k) 2 200 with
      | false =>
        have HF := Lib.hid (dv_or (wm := wm) (rises_f1 hlt hb))
        have HB := Lib.hid hb
        clear hb hca HA
        go_wp2_with (go_at_call 39; refine (within_any _ _ _ _).mono ?_; rintro e w' ⟨rfl, rfl⟩; rw [HB.out])
        go_ret
        exact ⟨ret_b HF.out.symm, by go_grown⟩
      | true =>
        have HB := Lib.hid hb
        by_cases h0 : 0 < k
        · have cb := hca (k - 1) (by omega)
          have i1 : (0 : Int) < (k : Int) := by omega
          clear hb hca HA
          by_cases hr : ix cs k ≤ ix cs (k - 1)
          · have HF := Lib.hid (dv_or (wm := wm) (rises_f2 hlt h0 hr))
            go_wp2_with (go_at_call 39; refine (within_any _ _ _ _).mono ?_; rintro e w' ⟨rfl, rfl⟩; rw [HB.out])
            go_ret
            exact ⟨ret_b HF.out.symm, by go_grown⟩
          · have hr' : ix cs (k - 1) < ix cs k := by omega
            go_wp2_with (go_at_call 39; refine (within_any _ _ _ _).mono ?_; rintro e w' ⟨rfl, rfl⟩; rw [HB.out])
            go_round
            case rel => exact ⟨k + 1, by omega, by go_num, HU.out.succ HB.out fun _ => hr'⟩
            case measure => simp [intOf]; omega
        · have i1 : (k : Int) ≤ 0 := by omega
          have HU2 := Lib.hid (HU.out.succ hb fun h => absurd h h0)
          clear hb hca HA h0
          go_wp2_with (go_at_call 39; refine (within_any _ _ _ _).mono ?_; rintro e w' ⟨rfl, rfl⟩; rw [HB.out])
          go_round
          case rel => exact ⟨k + 1, by omega, by go_num, HU2.out⟩
          case measure => simp [intOf]; omega
    · have HR := Lib.hid (rises_t hup (by omega : cs.length ≤ k))
      clear HA
      cases h1 : inB wm 1 360 with
      | false =>
        have HF := Lib.hid (dv_worm (cs := cs) h1)
        have H1 := Lib.hid h1
        clear h1
        go_wp2_with (go_at_call 39; refine (within_any _ _ _ _).mono ?_; rintro e w' ⟨rfl, rfl⟩; rw [H1.out])
        go_ret
        exact ⟨ret_b HF.out.symm, by go_grown⟩
      | true =>
        have H1 := Lib.hid h1
        clear h1
        by_cases hl : 1 ≤ cs.length
        · have HL : Hid (decide ((1 : Int) ≤ (cs.length : Int)) = true) := decide_eq_true (by omega)
          have hl' : (1 : Int) ≤ (cs.length : Int) := by omega
          go_wp2_with (go_at_call 39; refine (within_any _ _ _ _).mono ?_; rintro e w' ⟨rfl, rfl⟩; rw [H1.out])
          go_ret
          exact ⟨ret_b (by rw [dvB, H1.out, inB20, HL.out, HR.out]; simp), by go_grown⟩
        · have HL : Hid (decide ((1 : Int) ≤ (cs.length : Int)) = false) := decide_eq_false (by omega)
          have hl' : (cs.length : Int) < 1 := by omega
          go_wp2_with (go_at_call 39; refine (within_any _ _ _ _).mono ?_; rintro e w' ⟨rfl, rfl⟩; rw [H1.out])
          go_ret
          exact ⟨ret_b (by rw [dvB, H1.out, inB20, HL.out, HR.out]; simp), by go_grown⟩

theorem l00In_q (n lo hi : Int) (b : Bool) (w : World) (h : inB n lo hi = b) :
    Calls Try.prog 43 #[.int .i64 n, .int .i64 lo, .int .i64 hi] w fun e w' => e = .returned (.bool b) ∧ w' = w :=
  (l00In_any n lo hi w).mono fun _ _ ⟨he, hw⟩ => ⟨by rw [he, h], hw.symm⟩
theorem within_q (n lo hi : Int) (b : Bool) (w : World) (h : inB n lo hi = b) :
    Calls Try.prog 39 #[.int .i64 n, .int .i64 lo, .int .i64 hi] w fun e w' => e = .returned (.bool b) ∧ w' = w :=
  (within_any n lo hi w).mono fun _ _ ⟨he, hw⟩ => ⟨by rw [he, h], hw.symm⟩
set_option maxHeartbeats 4000000 in
theorem l00Rises_any (v : Value) (cs : List Int) (w : World) (hv : Sl w v cs) :
    Calls Try.prog 58 #[v, .int .i64 2, .int .i64 200] w fun e w' => e = .returned (.bool (risesB cs)) ∧ ∃ n, w' = w.drewN n := by
  obtain ⟨A, c, rfl, hac, hac', HA⟩ := hv.open_
  clear hv
  go_enter Try.func58, Try.ntmps58
  go_wp2_with fail
  go_loopw [7] (fun i wr => ∃ k : Nat, k ≤ cs.length ∧ i = .int .i64 k ∧ UpTo cs k ∧ ∃ n, wr = w.drewN n) (fun i _ => cs.length - (intOf i).toNat)
  case atStart => exact ⟨0, Nat.zero_le _, rfl, UpTo.zero _, 0, rfl⟩
  case round =>
    obtain ⟨k, hk, rfl, hup, n, rfl⟩ := hrel
    by_cases hlt : k < cs.length
    · obtain ⟨ba, oa, rfl, hba, hca⟩ := HA.out k hlt
      have ca := hca k hlt
      have HU := Lib.hid hup
      have i2 : (k : Int) < (cs.length : Int) := by omega
      have i3 : (0 : Int) ≤ (k : Int) := by omega
      clear hup
      cases hb : inB (ix cs k) 2 200 with
      | false =>
        have HF := Lib.hid (rises_f1 hlt hb)
        have HB := Lib.hid hb
        clear hb hca HA
        go_wp2
        go_quiet ((go_at_call 43; exact quiet_add_same (l00In_q _ _ _ _ _ HB.out)))
        go_wp2
        go_ret
        exact ⟨ret_b HF.out.symm, by first | exact ⟨_, rfl⟩ | exact ⟨_, World.drewN_drewN _ _ _⟩⟩
      | true =>
        have HB := Lib.hid hb
        by_cases h0 : 0 < k
        · have cb := hca (k - 1) (by omega)
          have i1 : (0 : Int) < (k : Int) := by omega
          have i4 : decide ((0 : Int) < (k : Int)) = true := decide_eq_true i1
          have e1 : IntKind.i64.wrap ((k : Int) - 1) = (k : Int) - 1 := IntWalk.i64_in _ (by omega)
          have e2 : ((k : Int) - 1).toNat = k - 1 := by omega
          have i5 : 0 ≤ (k : Int) - 1 := by omega
          have i6 : (k : Int) - 1 < (cs.length : Int) := by omega
          clear hb hca HA
          by_cases hr : ix cs k ≤ ix cs (k - 1)
          · have HF := Lib.hid (rises_f2 hlt h0 hr)
            have i7 : decide (ix cs k ≤ ix cs (k - 1)) = true := decide_eq_true hr
            go_wp2
            go_quiet ((go_at_call 43; exact quiet_add_same (l00In_q _ _ _ _ _ HB.out)))
            clear e1 e2
            go_wp2
            go_ret
            exact ⟨ret_b HF.out.symm, by first | exact ⟨_, rfl⟩ | exact ⟨_, World.drewN_drewN _ _ _⟩⟩
          · have hr' : ix cs (k - 1) < ix cs k := by omega
            have i7 : decide (ix cs k ≤ ix cs (k - 1)) = false := decide_eq_false hr
            go_wp2
            go_quiet ((go_at_call 43; exact quiet_add_same (l00In_q _ _ _ _ _ HB.out)))
            clear e1 e2
            go_wp2
            go_roundw
            case rel => exact ⟨k + 1, by omega, by go_num, HU.out.succ HB.out fun _ => hr', by first | exact ⟨_, rfl⟩ | exact ⟨_, World.drewN_drewN _ _ _⟩⟩
            case measure => simp [intOf]; omega
        · have i1 : (k : Int) ≤ 0 := by omega
          have i4 : decide ((0 : Int) < (k : Int)) = false := decide_eq_false (by omega)
          have i8 : decide (0 < k) = false := decide_eq_false (by omega)
          have i9 : ¬ 0 < k := by omega
          have HU2 := Lib.hid (HU.out.succ hb fun h => absurd h h0)
          clear hb hca HA h0
          go_wp2
          go_quiet ((go_at_call 43; exact quiet_add_same (l00In_q _ _ _ _ _ HB.out)))
          go_wp2
          go_roundw
          case rel => exact ⟨k + 1, by omega, by go_num, HU2.out, by first | exact ⟨_, rfl⟩ | exact ⟨_, World.drewN_drewN _ _ _⟩⟩
          case measure => simp [intOf]; omega
    · have HR := Lib.hid (rises_t hup (by omega : cs.length ≤ k))
      clear HA
      go_wp2
      go_ret
      exact ⟨ret_b HR.out.symm, n, rfl⟩

set_option maxHeartbeats 2000000 in
theorem l24Ok_s (v : Value) (cs : List Int) (wm : Int) (w : World) (hv : Sl w v cs) :
    Calls Try.prog 37 #[.agg #[.int .i64 wm, v]] w fun e w' => e = .returned (.bool (dvB wm cs)) ∧ Below w.heap.size w w' := by
  have H1 := Lib.hid (fun w' (hb : Below w.heap.size w w') => l00Rises_any v cs w' (hv.below hb))
  obtain ⟨A, c, rfl, hac, hac', _⟩ := hv.open_
  clear hv
  cases h1 : inB wm 1 360 with
  | false =>
    have HF := Lib.hid (dv_worm (cs := cs) h1)
    have HB := Lib.hid h1
    clear h1
    go_enter Try.func37, Try.ntmps37
    go_wp2_with (go_at_call 43; refine (l00In_any _ _ _ _).mono ?_; rintro e w' ⟨rfl, rfl⟩; rw [HB.out])
    go_ret
    exact ⟨ret_b HF.out.symm, by go_grown⟩
  | true =>
    have HB := Lib.hid h1
    cases h2 : inB (cs.length : Int) 1 20 with
    | false =>
      have HF := Lib.hid (dv_len (wm := wm) h2)
      have HC := Lib.hid h2
      clear h1 h2
      go_enter Try.func37, Try.ntmps37
      go_wp2_with fail
      refine (l00In_any _ _ _ _).mono ?_
      rintro e w' ⟨rfl, rfl⟩
      rw [HB.out]
      go_wp2_with fail
      refine (l00In_any _ _ _ _).mono ?_
      rintro e w' ⟨rfl, rfl⟩
      rw [HC.out]
      go_wp2_with fail
      go_ret
      exact ⟨ret_b HF.out.symm, by go_grown⟩
    | true =>
      have HF := Lib.hid (dv_all h1 h2)
      have HC := Lib.hid h2
      clear h1 h2
      go_enter Try.func37, Try.ntmps37
      go_wp2_with fail
      refine (l00In_any _ _ _ _).mono ?_
      rintro e w' ⟨rfl, rfl⟩
      rw [HB.out]
      go_wp2_with fail
      refine (l00In_any _ _ _ _).mono ?_
      rintro e w' ⟨rfl, rfl⟩
      rw [HC.out]
      go_wp2_with fail
      refine (H1.out _ (by go_grown)).mono ?_
      rintro e w1 ⟨rfl, n, rfl⟩
      go_wp2
      go_ret
      exact ⟨ret_b HF.out.symm, below_drewN (by go_grown) _⟩

set_option maxHeartbeats 1000000 in
theorem ValidDivider_s (v : Value) (cs : List Int) (wm : Int) (w : World) (hv : Sl w v cs) :
    Calls Try.prog 12 #[.agg #[.int .i64 wm, v]] w fun e w' => e = .returned (.bool (dvB wm cs)) ∧ Below w.heap.size w w' := by
  have H1 := Lib.hid (fun w' (hb : Below w.heap.size w w') => l24Ok_s v cs wm w' (hv.below hb))
  clear hv
  go_enter Try.func12, Try.ntmps12
  go_wp2_with fail
  refine (H1.out _ (by go_grown)).mono ?_
  rintro e w1 ⟨rfl, hb⟩
  go_wp2
  go_ret
  exact ⟨rfl, Below.trans (by go_grown) (hb.mono (by simp))⟩
theorem ValidDivider_both (wm : Int) (cs : List Int) : ∃ rb : Bool,
    (∀ v w, Sl w v cs → Calls Try.prog 14 #[.agg #[.int .i64 wm, v]] w fun e w' => e = .returned (.bool rb) ∧ Below w.heap.size w w') ∧
    (∀ v w, Sl w v cs → Calls Try.prog 12 #[.agg #[.int .i64 wm, v]] w fun e w' => e = .returned (.bool rb) ∧ Below w.heap.size w w') :=
  ⟨dvB wm cs, fun v w hv => ValidDivider_i v cs wm w hv, fun v w hv => ValidDivider_s v cs wm w hv⟩
end Go.Proofs.Ytlfahiaoekcepaa
