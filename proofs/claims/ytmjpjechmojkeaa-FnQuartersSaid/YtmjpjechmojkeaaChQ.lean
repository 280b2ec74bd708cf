/- Quarters: contracts of QuarterStep, QuartersWrong, QuarterRun in the program and in the reference. -/
import Derived.Test.YtmjpjechmojkeaaAid
namespace Go.Proofs.Ytmjpjechmojkeaa
open Go.RowKit

/-- What is played at a quarter, and the part that follows. -/
def qsP (n q : Int) : Int := if n = 3 ∧ q ≠ 3 then -1 else n
def qsN (n q : Int) : Int := if n = 3 ∧ q ≠ 3 then n else (n + 1) % 4
theorem qsN_in {n : Int} (q : Int) (_h0 : 0 ≤ n) (_h3 : n ≤ 3) : 0 ≤ qsN n q ∧ qsN n q ≤ 3 := by unfold qsN; split <;> omega
theorem qsP_in {n : Int} (q : Int) (_h0 : 0 ≤ n) (_h3 : n ≤ 3) : -1 ≤ qsP n q ∧ qsP n q ≤ 3 := by unfold qsP; split <;> omega

theorem qs_ret {n q a b : Int} (h : a = qsP n q) (h' : b = qsN n q) : Ending.returned (.tuple #[.int .i64 a, .int .i64 b]) = Ending.returned (.tuple #[.int .i64 (qsP n q), .int .i64 (qsN n q)]) := ret_ii h h'

set_option maxHeartbeats 400000 in
theorem quarterStep_any (n q : Int) (w : World) (_h0 : 0 ≤ n) (_h3 : n ≤ 3) :
    Calls Try.prog 47 #[.int .i64 n, .int .i64 q] w fun e w' => e = .returned (.tuple #[.int .i64 (qsP n q), .int .i64 (qsN n q)]) ∧ w = w' := by
  by_cases hn : n = 3
  · subst hn
    by_cases hq : q = 3
    · subst hq
      go_enter Try.func47, Try.ntmps47
      go_wp2
      go_ret2
      exact ⟨qs_ret (by decide) (by decide), rfl⟩
    · have hb : (q != 3) = true := by simp [hq]
      go_enter Try.func47, Try.ntmps47
      go_wp2
      go_ret2
      exact ⟨qs_ret (by simp [qsP, hq]) (by simp [qsN, hq]), rfl⟩
  · have hb : (n == 3) = false := by simp [hn]
    go_enter Try.func47, Try.ntmps47
    go_wp2
    go_ret2
    exact ⟨qs_ret (by simp [qsP, hn]) (by simp [qsN, hn]), rfl⟩
set_option maxHeartbeats 400000 in
theorem l22Quarter_any (n q : Int) (w : World) (_h0 : 0 ≤ n) (_h3 : n ≤ 3) :
    Calls Try.prog 45 #[.int .i64 n, .int .i64 q] w fun e w' => e = .returned (.tuple #[.int .i64 (qsP n q), .int .i64 (qsN n q)]) ∧ w = w' := by
  by_cases hn : n = 3
  · subst hn
    by_cases hq : q = 3
    · subst hq
      go_enter Try.func45, Try.ntmps45
      go_wp2
      go_ret2
      exact ⟨qs_ret (by decide) (by decide), rfl⟩
    · have hb : (q != 3) = true := by simp [hq]
      go_enter Try.func45, Try.ntmps45
      go_wp2
      go_ret2
      exact ⟨qs_ret (by simp [qsP, hq]) (by simp [qsN, hq]), rfl⟩
  · have hb : (n == 3) = false := by simp [hn]
    go_enter Try.func45, Try.ntmps45
    go_wp2
    go_ret2
    exact ⟨qs_ret (by simp [qsP, hn]) (by simp [qsN, hn]), rfl⟩

/-- What QuarterStep returns. -/
def qStepV (n q : Int) : Value := if inB n 0 3 = true ∧ inB q 0 3 = true then .tuple #[.int .i64 (qsP n q), .int .i64 (qsN n q), .int .i64 0] else .tuple #[.int .i64 0, .int .i64 0, .int .i64 2]

set_option maxHeartbeats 400000 in
theorem QuarterStep_i (n q : Int) (w : World) :
    Calls Try.prog 13 #[.int .i64 n, .int .i64 q] w fun e w' => e = .returned (qStepV n q) ∧ w = w' := by
  by_cases h1 : 0 ≤ n ∧ n ≤ 3
  · by_cases h2 : 0 ≤ q ∧ q ≤ 3
    · have e1 := inB_t h1.1 h1.2
      have e2 := inB_t h2.1 h2.2
      have hv : Hid (qStepV n q = .tuple #[.int .i64 (qsP n q), .int .i64 (qsN n q), .int .i64 0]) := by show _ = _; rw [qStepV, if_pos ⟨e1, e2⟩]
      go_enter Try.func13, Try.ntmps13
      go_wp2_with (first
        | (go_at_call 46; refine (within_any _ _ _ _).mono ?_; rintro e w' ⟨rfl, rfl⟩)
        | (go_at_call 47; refine (quarterStep_any _ _ _ (by omega) (by omega)).mono ?_; rintro e w' ⟨rfl, rfl⟩))
      go_ret3
      exact ⟨by rw [hv.out]; rfl, rfl⟩
    · have e1 := inB_t h1.1 h1.2
      have e2 := inB_no h2
      have hv : Hid (qStepV n q = .tuple #[.int .i64 0, .int .i64 0, .int .i64 2]) := by show _ = _; rw [qStepV, if_neg (by simp [e2])]
      go_enter Try.func13, Try.ntmps13
      go_wp2_with (go_at_call 46; refine (within_any _ _ _ _).mono ?_; rintro e w' ⟨rfl, rfl⟩)
      go_ret3
      exact ⟨by rw [hv.out]; rfl, rfl⟩
  · have e1 := inB_no h1
    have hv : Hid (qStepV n q = .tuple #[.int .i64 0, .int .i64 0, .int .i64 2]) := by show _ = _; rw [qStepV, if_neg (by simp [e1])]
    go_enter Try.func13, Try.ntmps13
    go_wp2_with (go_at_call 46; refine (within_any _ _ _ _).mono ?_; rintro e w' ⟨rfl, rfl⟩)
    go_ret3
    exact ⟨by rw [hv.out]; rfl, rfl⟩

set_option maxHeartbeats 400000 in
theorem QuarterStep_s (n q : Int) (w : World) :
    Calls Try.prog 12 #[.int .i64 n, .int .i64 q] w fun e w' => e = .returned (qStepV n q) ∧ w = w' := by
  by_cases h1 : 0 ≤ n ∧ n ≤ 3
  · by_cases h2 : 0 ≤ q ∧ q ≤ 3
    · have e1 := inB_t h1.1 h1.2
      have e2 := inB_t h2.1 h2.2
      have hv : Hid (qStepV n q = .tuple #[.int .i64 (qsP n q), .int .i64 (qsN n q), .int .i64 0]) := by show _ = _; rw [qStepV, if_pos ⟨e1, e2⟩]
      go_enter Try.func12, Try.ntmps12
      go_wp2_with (first
        | (go_at_call 44; refine (l00In_any _ _ _ _).mono ?_; rintro e w' ⟨rfl, rfl⟩)
        | (go_at_call 45; refine (l22Quarter_any _ _ _ (by omega) (by omega)).mono ?_; rintro e w' ⟨rfl, rfl⟩))
      go_ret3
      exact ⟨by rw [hv.out]; rfl, rfl⟩
    · have e1 := inB_t h1.1 h1.2
      have e2 := inB_no h2
      have hv : Hid (qStepV n q = .tuple #[.int .i64 0, .int .i64 0, .int .i64 2]) := by show _ = _; rw [qStepV, if_neg (by simp [e2])]
      go_enter Try.func12, Try.ntmps12
      go_wp2_with (go_at_call 44; refine (l00In_any _ _ _ _).mono ?_; rintro e w' ⟨rfl, rfl⟩)
      go_ret3
      exact ⟨by rw [hv.out]; rfl, rfl⟩
  · have e1 := inB_no h1
    have hv : Hid (qStepV n q = .tuple #[.int .i64 0, .int .i64 0, .int .i64 2]) := by show _ = _; rw [qStepV, if_neg (by simp [e1])]
    go_enter Try.func12, Try.ntmps12
    go_wp2_with (go_at_call 44; refine (l00In_any _ _ _ _).mono ?_; rintro e w' ⟨rfl, rfl⟩)
    go_ret3
    exact ⟨by rw [hv.out]; rfl, rfl⟩

/-- At how many quarters something wrong is played. -/
def qwF : Nat → Int → Int → Int
  | 0, _, _ => 0
  | f + 1, n, q => if n = q then 0 else 1 + qwF f (qsN n q) ((q + 1) % 4)
def qw (n q : Int) : Int := qwF 8 n q
theorem four {n : Int} (h0 : 0 ≤ n) (h3 : n ≤ 3) : n = 0 ∨ n = 1 ∨ n = 2 ∨ n = 3 := by omega
theorem qw_step {n q : Int} (h0 : 0 ≤ n) (h3 : n ≤ 3) (g0 : 0 ≤ q) (g3 : q ≤ 3) (hne : n ≠ q) : qw n q = 1 + qw (qsN n q) ((q + 1) % 4) := by
  rcases four h0 h3 with rfl | rfl | rfl | rfl <;> rcases four g0 g3 with rfl | rfl | rfl | rfl <;> first | exact absurd rfl hne | decide
theorem qw_same {n : Int} : qw n n = 0 := by simp [qw, qwF]
theorem qw_in {n q : Int} (h0 : 0 ≤ n) (h3 : n ≤ 3) (g0 : 0 ≤ q) (g3 : q ≤ 3) : 0 ≤ qw n q ∧ qw n q ≤ 8 := by
  rcases four h0 h3 with rfl | rfl | rfl | rfl <;> rcases four g0 g3 with rfl | rfl | rfl | rfl <;> decide
/-- What QuartersWrong returns. -/
def qWrongV (n q : Int) : Value := if inB n 0 3 = true ∧ inB q 0 3 = true then .tuple #[.int .i64 (qw n q), .int .i64 0] else .tuple #[.int .i64 0, .int .i64 2]

set_option maxHeartbeats 400000 in
theorem QuartersWrong_i (n q : Int) (w : World) :
    Calls Try.prog 15 #[.int .i64 n, .int .i64 q] w fun e w' => e = .returned (qWrongV n q) ∧ w = w' := by
  by_cases h1 : 0 ≤ n ∧ n ≤ 3
  · by_cases h2 : 0 ≤ q ∧ q ≤ 3
    · have e1 := inB_t h1.1 h1.2
      have e2 := inB_t h2.1 h2.2
      have hv : Hid (qWrongV n q = .tuple #[.int .i64 (qw n q), .int .i64 0]) := by show _ = _; rw [qWrongV, if_pos ⟨e1, e2⟩]
      go_enter Try.func15, Try.ntmps15
      go_wp2_with (go_at_call 46; refine (within_any _ _ _ _).mono ?_; rintro e w' ⟨rfl, rfl⟩)
      go_loop [0, 1, 6] (fun a b c => ∃ n1 q1 c1 : Int, 0 ≤ n1 ∧ n1 ≤ 3 ∧ 0 ≤ q1 ∧ q1 ≤ 3 ∧ 0 ≤ c1 ∧ a = .int .i64 n1 ∧ b = .int .i64 q1 ∧ c = .int .i64 c1 ∧ Hid (c1 + qw n1 q1 = qw n q)) (fun a b _ => (qw (intOf a) (intOf b)).toNat)
      case atStart => exact ⟨n, q, 0, h1.1, h1.2, h2.1, h2.2, by omega, rfl, rfl, rfl, by show _ = _; omega⟩
      case round =>
        obtain ⟨n1, q1, c1, a0, a3, b0, b3, c0, rfl, rfl, rfl, HS⟩ := hrel
        by_cases he : n1 = q1
        · have hb : (n1 != q1) = false := by simp [he]
          have hfin : Hid (c1 = qw n q) := by have := HS.out; rw [he, qw_same] at this; show _ = _; omega
          have HE := Lib.hid he
          clear he
          go_wp2
          go_ret2
          exact ⟨by rw [hv.out, ← hfin.out]; rfl, rfl⟩
        · have hb : (n1 != q1) = true := by simp [he]
          have hs := qw_step a0 a3 b0 b3 he
          have hq := qsN_in q1 a0 a3
          have hw := qw_in a0 a3 b0 b3
          have hw2 := qw_in h1.1 h1.2 h2.1 h2.2
          have hw3 := qw_in hq.1 hq.2 (show 0 ≤ (q1 + 1) % 4 by omega) (by omega)
          have hc8 : c1 ≤ 8 := by have := HS.out; omega
          have HT : Hid (qw n1 q1 = 1 + qw (qsN n1 q1) ((q1 + 1) % 4)) := hs
          clear hs hw hw2 hw3
          go_wp2_with (go_at_call 47; refine (quarterStep_any _ _ _ (by omega) (by omega)).mono ?_; rintro e w' ⟨rfl, rfl⟩)
          go_round
          case rel => exact ⟨_, _, c1 + 1, hq.1, hq.2, by omega, by omega, by omega, rfl, rfl, rfl, by have := HS.out; have := HT.out; show _ = _; omega⟩
          case measure => have := HT.out; have := qw_in hq.1 hq.2 (show 0 ≤ (q1 + 1) % 4 by omega) (by omega); simp [intOf]; omega
    · have e1 := inB_t h1.1 h1.2
      have e2 := inB_no h2
      have hv : Hid (qWrongV n q = .tuple #[.int .i64 0, .int .i64 2]) := by show _ = _; rw [qWrongV, if_neg (by simp [e2])]
      go_enter Try.func15, Try.ntmps15
      go_wp2_with (go_at_call 46; refine (within_any _ _ _ _).mono ?_; rintro e w' ⟨rfl, rfl⟩)
      go_ret2
      exact ⟨by rw [hv.out]; rfl, rfl⟩
  · have e1 := inB_no h1
    have hv : Hid (qWrongV n q = .tuple #[.int .i64 0, .int .i64 2]) := by show _ = _; rw [qWrongV, if_neg (by simp [e1])]
    go_enter Try.func15, Try.ntmps15
    go_wp2_with (go_at_call 46; refine (within_any _ _ _ _).mono ?_; rintro e w' ⟨rfl, rfl⟩)
    go_ret2
    exact ⟨by rw [hv.out]; rfl, rfl⟩

set_option maxHeartbeats 400000 in
theorem QuartersWrong_s (n q : Int) (w : World) :
    Calls Try.prog 14 #[.int .i64 n, .int .i64 q] w fun e w' => e = .returned (qWrongV n q) ∧ w = w' := by
  by_cases h1 : 0 ≤ n ∧ n ≤ 3
  · by_cases h2 : 0 ≤ q ∧ q ≤ 3
    · have e1 := inB_t h1.1 h1.2
      have e2 := inB_t h2.1 h2.2
      have hv : Hid (qWrongV n q = .tuple #[.int .i64 (qw n q), .int .i64 0]) := by show _ = _; rw [qWrongV, if_pos ⟨e1, e2⟩]
      go_enter Try.func14, Try.ntmps14
      go_wp2_with (go_at_call 44; refine (l00In_any _ _ _ _).mono ?_; rintro e w' ⟨rfl, rfl⟩)
      go_loop [0, 1, 6] (fun a b c => ∃ n1 q1 c1 : Int, 0 ≤ n1 ∧ n1 ≤ 3 ∧ 0 ≤ q1 ∧ q1 ≤ 3 ∧ 0 ≤ c1 ∧ a = .int .i64 n1 ∧ b = .int .i64 q1 ∧ c = .int .i64 c1 ∧ Hid (c1 + qw n1 q1 = qw n q)) (fun a b _ => (qw (intOf a) (intOf b)).toNat)
      case atStart => exact ⟨n, q, 0, h1.1, h1.2, h2.1, h2.2, by omega, rfl, rfl, rfl, by show _ = _; omega⟩
      case round =>
        obtain ⟨n1, q1, c1, a0, a3, b0, b3, c0, rfl, rfl, rfl, HS⟩ := hrel
        by_cases he : n1 = q1
        · have hb : (n1 != q1) = false := by simp [he]
          have hfin : Hid (c1 = qw n q) := by have := HS.out; rw [he, qw_same] at this; show _ = _; omega
          have HE := Lib.hid he
          clear he
          go_wp2
          go_ret2
          exact ⟨by rw [hv.out, ← hfin.out]; rfl, rfl⟩
        · have hb : (n1 != q1) = true := by simp [he]
          have hs := qw_step a0 a3 b0 b3 he
          have hq := qsN_in q1 a0 a3
          have hw := qw_in a0 a3 b0 b3
          have hw2 := qw_in h1.1 h1.2 h2.1 h2.2
          have hw3 := qw_in hq.1 hq.2 (show 0 ≤ (q1 + 1) % 4 by omega) (by omega)
          have hc8 : c1 ≤ 8 := by have := HS.out; omega
          have HT : Hid (qw n1 q1 = 1 + qw (qsN n1 q1) ((q1 + 1) % 4)) := hs
          clear hs hw hw2 hw3
          go_wp2_with (go_at_call 45; refine (l22Quarter_any _ _ _ (by omega) (by omega)).mono ?_; rintro e w' ⟨rfl, rfl⟩)
          go_round
          case rel => exact ⟨_, _, c1 + 1, hq.1, hq.2, by omega, by omega, by omega, rfl, rfl, rfl, by have := HS.out; have := HT.out; show _ = _; omega⟩
          case measure => have := HT.out; have := qw_in hq.1 hq.2 (show 0 ≤ (q1 + 1) % 4 by omega) (by omega); simp [intOf]; omega
    · have e1 := inB_t h1.1 h1.2
      have e2 := inB_no h2
      have hv : Hid (qWrongV n q = .tuple #[.int .i64 0, .int .i64 2]) := by show _ = _; rw [qWrongV, if_neg (by simp [e2])]
      go_enter Try.func14, Try.ntmps14
      go_wp2_with (go_at_call 44; refine (l00In_any _ _ _ _).mono ?_; rintro e w' ⟨rfl, rfl⟩)
      go_ret2
      exact ⟨by rw [hv.out]; rfl, rfl⟩
  · have e1 := inB_no h1
    have hv : Hid (qWrongV n q = .tuple #[.int .i64 0, .int .i64 2]) := by show _ = _; rw [qWrongV, if_neg (by simp [e1])]
    go_enter Try.func14, Try.ntmps14
    go_wp2_with (go_at_call 44; refine (l00In_any _ _ _ _).mono ?_; rintro e w' ⟨rfl, rfl⟩)
    go_ret2
    exact ⟨by rw [hv.out]; rfl, rfl⟩

/-- What is played at m quarters; the part that follows then. -/
def qrN (n q : Int) : Nat → Int
  | 0 => n
  | m + 1 => qsN (qrN n q m) ((q + (m : Int)) % 4)
def qrL (n q : Int) : Nat → List Int
  | 0 => []
  | m + 1 => qrL n q m ++ [qsP (qrN n q m) ((q + (m : Int)) % 4)]
theorem qrN_in {n : Int} (q : Int) (h0 : 0 ≤ n) (h3 : n ≤ 3) (m : Nat) : 0 ≤ qrN n q m ∧ qrN n q m ≤ 3 := by
  induction m with
  | zero => exact ⟨h0, h3⟩
  | succ m ih => exact qsN_in _ ih.1 ih.2
theorem qrL_length (n q : Int) (m : Nat) : (qrL n q m).length = m := by
  induction m with
  | zero => rfl
  | succ m ih => simp [qrL, ih]
/-- QuarterRun's bounds hold. -/
def qrOk (n q m : Int) : Prop := (0 ≤ n ∧ n ≤ 3) ∧ (0 ≤ q ∧ q ≤ 3) ∧ (0 ≤ m ∧ m ≤ 400)
instance (n q m : Int) : Decidable (qrOk n q m) := inferInstanceAs (Decidable (_ ∧ _))
/-- What QuarterRun returns, in a world that has grown from w. -/
def QrPost (n q m : Int) (w : World) (e : Ending) (w' : World) : Prop :=
  if qrOk n q m then ∃ v, e = .returned (.tuple #[v, .int .i64 (qrN n q m.toNat), .int .i64 0]) ∧ w'.ownsRow w.heap.size 2 1 v (qrL n q m.toNat).length (I64 (qrL n q m.toNat)) ∧ Below w.heap.size w w'
  else e = .returned (.tuple #[.slice none 0 0, .int .i64 0, .int .i64 2]) ∧ w = w'

set_option maxHeartbeats 1000000 in
theorem QuarterRun_i (n q m : Int) (w : World) :
    Calls Try.prog 17 #[.int .i64 n, .int .i64 q, .int .i64 m] w (QrPost n q m w) := by
  by_cases hok : qrOk n q m
  · have HP : Hid (∀ e w', (∃ v, e = Ending.returned (.tuple #[v, .int .i64 (qrN n q m.toNat), .int .i64 0]) ∧ w'.ownsRow w.heap.size 2 1 v (qrL n q m.toNat).length (I64 (qrL n q m.toNat)) ∧ Below w.heap.size w w') → QrPost n q m w e w') := by
      intro e w' h; rw [QrPost, if_pos hok]; exact h
    obtain ⟨h1, h2, h4⟩ := hok
    obtain ⟨N, rfl⟩ := Int.eq_ofNat_of_zero_le h4.1
    have e1 := inB_t h1.1 h1.2
    have e2 := inB_t h2.1 h2.2
    have e4 := inB_t h4.1 h4.2
    go_enter Try.func17, Try.ntmps17
    go_wp2_with (go_at_call 46; refine (within_any _ _ _ _).mono ?_; rintro e w' ⟨rfl, rfl⟩)
    go_loopw [0, 9, 10] (fun a v k wr => ∃ j : Nat, j ≤ N ∧ a = .int .i64 (qrN n q j) ∧ k = .int .i64 j ∧ wr.ownsRow w.heap.size 2 1 v (qrL n q j).length (I64 (qrL n q j)) ∧ Below w.heap.size w wr) (fun _ _ k _ => N - (intOf k).toNat)
    case atStart => exact ⟨0, Nat.zero_le _, rfl, rfl, World.ownsRow_nil _ _ _ _, Below.refl _ _⟩
    case round =>
      obtain ⟨j, hj, rfl, rfl, hown, hb⟩ := hrel
      by_cases hlt : j < N
      · have hq := qrN_in q h1.1 h1.2 j
        have i1 : (j : Int) < (N : Int) := by omega
        have hlen := qrL_length n q j
        have hL : (qrL n q j).length ≤ 134217728 := by omega
        have hsz := hb.size
        clear hlen
        go_wp2_with (first
          | (go_at_call 47; refine (quarterStep_any _ _ _ (by omega) (by omega)).mono ?_; rintro e w' ⟨rfl, rfl⟩)
          | (at_builtin; refine wpList_app1 rfl _ _ rfl w.heap.size _ (qrL n q j) rfl hown _ rfl hL hsz ?_; intro v' w1 hown' hb'))
        go_roundw
        case rel => exact ⟨j + 1, by omega, rfl, by go_num, hown', hb.trans hb'⟩
        case measure => simp [intOf]; omega
      · have : j = N := by omega
        subst this
        go_wp2
        go_ret3
        exact HP.out _ _ ⟨_, rfl, hown, hb⟩
  · have HB : Hid (QrPost n q m w (Ending.returned (.tuple #[.slice none 0 0, .int .i64 0, .int .i64 2])) w) := by show QrPost _ _ _ _ _ _; rw [QrPost, if_neg hok]; exact ⟨rfl, rfl⟩
    by_cases h1 : 0 ≤ n ∧ n ≤ 3
    · have e1 := inB_t h1.1 h1.2
      by_cases h2 : 0 ≤ q ∧ q ≤ 3
      · have e2 := inB_t h2.1 h2.2
        have e4 : inB m 0 400 = false := inB_no fun h4 => hok ⟨h1, h2, h4⟩
        go_enter Try.func17, Try.ntmps17
        go_wp2_with (go_at_call 46; refine (within_any _ _ _ _).mono ?_; rintro e w' ⟨rfl, rfl⟩)
        go_ret3
        exact HB.out
      · have e2 := inB_no h2
        go_enter Try.func17, Try.ntmps17
        go_wp2_with (go_at_call 46; refine (within_any _ _ _ _).mono ?_; rintro e w' ⟨rfl, rfl⟩)
        go_ret3
        exact HB.out
    · have e1 := inB_no h1
      go_enter Try.func17, Try.ntmps17
      go_wp2_with (go_at_call 46; refine (within_any _ _ _ _).mono ?_; rintro e w' ⟨rfl, rfl⟩)
      go_ret3
      exact HB.out

set_option maxHeartbeats 1000000 in
theorem QuarterRun_s (n q m : Int) (w : World) :
    Calls Try.prog 16 #[.int .i64 n, .int .i64 q, .int .i64 m] w (QrPost n q m w) := by
  by_cases hok : qrOk n q m
  · have HP : Hid (∀ e w', (∃ v, e = Ending.returned (.tuple #[v, .int .i64 (qrN n q m.toNat), .int .i64 0]) ∧ w'.ownsRow w.heap.size 2 1 v (qrL n q m.toNat).length (I64 (qrL n q m.toNat)) ∧ Below w.heap.size w w') → QrPost n q m w e w') := by
      intro e w' h; rw [QrPost, if_pos hok]; exact h
    obtain ⟨h1, h2, h4⟩ := hok
    obtain ⟨N, rfl⟩ := Int.eq_ofNat_of_zero_le h4.1
    have e1 := inB_t h1.1 h1.2
    have e2 := inB_t h2.1 h2.2
    have e4 := inB_t h4.1 h4.2
    go_enter Try.func16, Try.ntmps16
    go_wp2_with (go_at_call 44; refine (l00In_any _ _ _ _).mono ?_; rintro e w' ⟨rfl, rfl⟩)
    go_loopw [0, 9, 10] (fun a v k wr => ∃ j : Nat, j ≤ N ∧ a = .int .i64 (qrN n q j) ∧ k = .int .i64 j ∧ wr.ownsRow w.heap.size 2 1 v (qrL n q j).length (I64 (qrL n q j)) ∧ Below w.heap.size w wr) (fun _ _ k _ => N - (intOf k).toNat)
    case atStart => exact ⟨0, Nat.zero_le _, rfl, rfl, World.ownsRow_lit w #[] 0 (Nat.le_refl _) (Nat.zero_le _) rfl, (Below.refl _ _).alloc (Nat.le_refl _) _⟩
    case round =>
      obtain ⟨j, hj, rfl, rfl, hown, hb⟩ := hrel
      by_cases hlt : j < N
      · have hq := qrN_in q h1.1 h1.2 j
        have i1 : (j : Int) < (N : Int) := by omega
        have hlen := qrL_length n q j
        have hL : (qrL n q j).length ≤ 134217728 := by omega
        have hsz := hb.size
        clear hlen
        go_wp2_with (first
          | (go_at_call 45; refine (l22Quarter_any _ _ _ (by omega) (by omega)).mono ?_; rintro e w' ⟨rfl, rfl⟩)
          | (at_builtin; refine wpList_app1 rfl _ _ rfl w.heap.size _ (qrL n q j) rfl hown _ rfl hL hsz ?_; intro v' w1 hown' hb'))
        go_roundw
        case rel => exact ⟨j + 1, by omega, rfl, by go_num, hown', hb.trans hb'⟩
        case measure => simp [intOf]; omega
      · have : j = N := by omega
        subst this
        go_wp2
        go_ret3
        exact HP.out _ _ ⟨_, rfl, hown, hb⟩
  · have HB : Hid (QrPost n q m w (Ending.returned (.tuple #[.slice none 0 0, .int .i64 0, .int .i64 2])) w) := by show QrPost _ _ _ _ _ _; rw [QrPost, if_neg hok]; exact ⟨rfl, rfl⟩
    by_cases h1 : 0 ≤ n ∧ n ≤ 3
    · have e1 := inB_t h1.1 h1.2
      by_cases h2 : 0 ≤ q ∧ q ≤ 3
      · have e2 := inB_t h2.1 h2.2
        have e4 : inB m 0 400 = false := inB_no fun h4 => hok ⟨h1, h2, h4⟩
        go_enter Try.func16, Try.ntmps16
        go_wp2_with (go_at_call 44; refine (l00In_any _ _ _ _).mono ?_; rintro e w' ⟨rfl, rfl⟩)
        go_ret3
        exact HB.out
      · have e2 := inB_no h2
        go_enter Try.func16, Try.ntmps16
        go_wp2_with (go_at_call 44; refine (l00In_any _ _ _ _).mono ?_; rintro e w' ⟨rfl, rfl⟩)
        go_ret3
        exact HB.out
    · have e1 := inB_no h1
      go_enter Try.func16, Try.ntmps16
      go_wp2_with (go_at_call 44; refine (l00In_any _ _ _ _).mono ?_; rintro e w' ⟨rfl, rfl⟩)
      go_ret3
      exact HB.out

/-- A list of the call's own, two numbers. -/
def OwnII (L : List Int) (a c : Int) (w : World) (e : Ending) (w' : World) : Prop :=
  ∃ v, e = .returned (.tuple #[v, .int .i64 a, .int .i64 c]) ∧ w'.ownsRow w.heap.size 2 1 v L.length (I64 L) ∧ Below w.heap.size w w'
/-- Both in one form. -/
theorem QuarterRun_both (n q m : Int) : ∃ L a c, L.length ≤ 400 ∧ (∀ w, Calls Try.prog 16 #[.int .i64 n, .int .i64 q, .int .i64 m] w (OwnII L a c w)) ∧ (∀ w, Calls Try.prog 17 #[.int .i64 n, .int .i64 q, .int .i64 m] w (OwnII L a c w)) := by
  by_cases h : qrOk n q m
  · refine ⟨qrL n q m.toNat, qrN n q m.toNat, 0, by rw [qrL_length]; have := h.2.2; omega, fun w => (QuarterRun_s n q m w).mono fun e w' hh => ?_, fun w => (QuarterRun_i n q m w).mono fun e w' hh => ?_⟩ <;>
    · rw [QrPost, if_pos h] at hh
      exact hh
  · refine ⟨[], 0, 2, Nat.zero_le _, fun w => (QuarterRun_s n q m w).mono fun e w' hh => ?_, fun w => (QuarterRun_i n q m w).mono fun e w' hh => ?_⟩ <;>
    · rw [QrPost, if_neg h] at hh
      obtain ⟨rfl, rfl⟩ := hh
      exact ⟨_, rfl, World.ownsRow_nil _ _ _ _, Below.refl _ _⟩

end Go.Proofs.Ytmjpjechmojkeaa
