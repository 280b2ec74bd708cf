/- Chimes: the least number of steps between pins of one bell, in the program and in the reference. -/
import Derived.Test.YtgaohmbgjjhdbaaChV
import Derived.Test.YtgaohmbgjjhdbaaFl
namespace Go.Proofs.Ytgaohmbgjjhdbaa
open Go.RowKit
attribute [local go_sem ↓] Go.wp_at_zero Go.wp_at_succ

theorem pins_rise {st bl : Int} {ps : List (Int × Int)} {n : Nat} (h : PinsTo st bl ps n) {i j : Nat} (hij : i < j) (hj : j < n) :
    (pi ps i).1 < (pi ps j).1 ∨ ((pi ps i).1 = (pi ps j).1 ∧ (pi ps i).2 < (pi ps j).2) := by
  induction j with
  | zero => omega
  | succ j ih =>
    have hb := (h (j + 1) hj).2.2 (by omega)
    have hb2 : (pi ps j).1 < (pi ps (j + 1)).1 ∨ ((pi ps j).1 = (pi ps (j + 1)).1 ∧ (pi ps j).2 < (pi ps (j + 1)).2) := by simpa [befP] using hb
    rcases Nat.lt_or_ge i j with h1 | h1
    · rcases ih h1 (by omega) with h2 | ⟨h2, h3⟩ <;> rcases hb2 with h4 | ⟨h4, h5⟩ <;> omega
    · have : i = j := by omega
      subst this; exact hb2
theorem pins_apart {st bl : Int} {ps : List (Int × Int)} {n : Nat} (h : PinsTo st bl ps n) {i j : Nat} (hi : i < n) (hj : j < n) (hb : (pi ps i).2 = (pi ps j).2) (hs : (pi ps i).1 = (pi ps j).1) : i = j := by
  rcases Nat.lt_trichotomy i j with h1 | h1 | h1
  · rcases pins_rise h h1 hj with h2 | ⟨h2, h3⟩ <;> omega
  · exact h1
  · rcases pins_rise h h1 hi with h2 | ⟨h2, h3⟩ <;> omega
theorem pins_in {st bl : Int} {ps : List (Int × Int)} {n : Nat} (h : PinsTo st bl ps n) {i : Nat} (hi : i < n) : (0 ≤ (pi ps i).1 ∧ (pi ps i).1 ≤ st - 1) ∧ 0 ≤ (pi ps i).2 ∧ (pi ps i).2 ≤ bl - 1 := ⟨inB_iff.1 (h i hi).1, inB_iff.1 (h i hi).2.1⟩

/-- The least distance so far, seen from pin p, behind pin q. -/
def cstep (st : Int) (p q : Int × Int) (a : Int) : Int := if p.2 = q.2 ∧ ¬ p.1 = q.1 then (if (q.1 - p.1) % st < a then (q.1 - p.1) % st else a) else a
def cin (st : Int) (ps : List (Int × Int)) (p : Int × Int) (a : Int) : Nat → Int
  | 0 => a
  | k + 1 => cstep st p (pi ps k) (cin st ps p a k)
def cout (st : Int) (ps : List (Int × Int)) : Nat → Int
  | 0 => st
  | i + 1 => cin st ps (pi ps i) (cout st ps i) ps.length
section
variable {st a : Int} {p q : Int × Int}
theorem cstep_lt (h1 : p.2 = q.2) (h2 : ¬ p.1 = q.1) (h3 : (q.1 - p.1) % st < a) : cstep st p q a = (q.1 - p.1) % st := by rw [cstep, if_pos ⟨h1, h2⟩, if_pos h3]
theorem cstep_ge (h1 : p.2 = q.2) (h2 : ¬ p.1 = q.1) (h3 : ¬ (q.1 - p.1) % st < a) : cstep st p q a = a := by rw [cstep, if_pos ⟨h1, h2⟩, if_neg h3]
theorem cstep_bell (h1 : ¬ p.2 = q.2) : cstep st p q a = a := if_neg fun h => h1 h.1
theorem cstep_same (h1 : p.1 = q.1) : cstep st p q a = a := if_neg fun h => h.2 h1
end
theorem cstep_le {st a : Int} {p q : Int × Int} (h1 : p.2 = q.2) (h2 : ¬ p.1 = q.1) (h3 : (q.1 - p.1) % st ≤ a) : cstep st p q a = (q.1 - p.1) % st := by
  rcases Int.lt_or_eq_of_le h3 with h | h
  · exact cstep_lt h1 h2 h
  · rw [cstep_ge h1 h2 (by omega)]; exact h.symm
set_option maxHeartbeats 400000 in
theorem l00Min_lt {a b : Int} (h : a < b) (w : World) : Calls Try.prog 73 #[.int .i64 a, .int .i64 b] w fun e w' => e = .returned (.int .i64 a) ∧ w = w' := by
  go_enter Try.func73, Try.ntmps73
  go_wp2
  go_ret
  exact ⟨rfl, rfl⟩
set_option maxHeartbeats 400000 in
theorem l00Min_ge {a b : Int} (h : ¬ a < b) (w : World) : Calls Try.prog 73 #[.int .i64 a, .int .i64 b] w fun e w' => e = .returned (.int .i64 b) ∧ w = w' := by
  go_enter Try.func73, Try.ntmps73
  go_wp2
  go_ret
  exact ⟨rfl, rfl⟩

set_option maxHeartbeats 2000000 in
theorem ClosestPins_i1 (v : Value) (ps : List (Int × Int)) (st bl : Int) (w : World) (hv : SlP w v ps) (hs : brB st bl ps = false) :
    Calls Try.prog 35 #[.agg #[.int .i64 st, .int .i64 bl, v]] w fun e w' => e = .returned (.tuple #[.int .i64 (0), .int .i64 1]) ∧ Below w.heap.size w w' := by
  have H1 := Lib.hid (fun w' (hb : Below w.heap.size w w') => ValidBarrel_i _ ps st bl w' (hv.below hb))
  have HB := Lib.hid hs
  clear hv hs
  go_enter Try.func35, Try.ntmps35
  have HK0 := Lib.hid (bx1 w 33 #[.int .i64 st, .int .i64 bl, v])
  go_wp2_with fail
  refine (H1.out _ (by go_grown)).mono ?_
  rintro e w1 ⟨rfl, hb1⟩
  rw [HB.out]
  have J0 := Lib.hid (HK0.out.below hb1)
  have q0 := J0.out.cell 0 rfl
  have q1 := J0.out.cell 1 rfl
  have q2 := J0.out.cell 2 rfl
  have z0 := J0.out.lt
  have B1 : Below w.heap.size w w1 := Below.trans (by go_grown) (hb1.mono (by first | (simp; done) | (simp; omega) | omega))
  clear hb1 HK0
  go_wp2
  try simp only [Exit.inBlock, Exit.then]
  refine bodyPost_ret (v := .tuple #[.int .i64 (0), .int .i64 1]) ?_ rfl ?_
  · simp [results, Try.results35, go_sem]
  exact ⟨rfl, by go_grown⟩

set_option maxHeartbeats 2000000 in
theorem ClosestPins_s1 (v : Value) (ps : List (Int × Int)) (st bl : Int) (w : World) (hv : SlP w v ps) (hs : brB st bl ps = false) :
    Calls Try.prog 36 #[.agg #[.int .i64 st, .int .i64 bl, v]] w fun e w' => e = .returned (.tuple #[.int .i64 (0), .int .i64 1]) ∧ Below w.heap.size w w' := by
  have H1 := Lib.hid (fun w' (hb : Below w.heap.size w w') => l22Ok_s _ ps st bl w' (hv.below hb))
  have HB := Lib.hid hs
  clear hv hs
  go_enter Try.func36, Try.ntmps36
  have HK0 := Lib.hid (bx1 w 33 #[.int .i64 st, .int .i64 bl, v])
  go_wp2_with fail
  refine (H1.out _ (by go_grown)).mono ?_
  rintro e w1 ⟨rfl, hb1⟩
  rw [HB.out]
  have J0 := Lib.hid (HK0.out.below hb1)
  have q0 := J0.out.cell 0 rfl
  have q1 := J0.out.cell 1 rfl
  have q2 := J0.out.cell 2 rfl
  have z0 := J0.out.lt
  have B1 : Below w.heap.size w w1 := Below.trans (by go_grown) (hb1.mono (by first | (simp; done) | (simp; omega) | omega))
  clear hb1 HK0
  go_wp2
  try simp only [Exit.inBlock, Exit.then]
  refine bodyPost_ret (v := .tuple #[.int .i64 (0), .int .i64 1]) ?_ rfl ?_
  · simp [results, Try.results36, go_sem]
  exact ⟨rfl, by go_grown⟩

set_option maxHeartbeats 2000000 in
theorem ClosestPins_i2 (v : Value) (st bl : Int) (w : World) (hv : SlP w v []) (hs : brB st bl [] = true) :
    Calls Try.prog 35 #[.agg #[.int .i64 st, .int .i64 bl, v]] w fun e w' => e = .returned (.tuple #[.int .i64 (0), .int .i64 3]) ∧ Below w.heap.size w w' := by
  obtain ⟨A, c, rfl, hac, hac', _⟩ := hv.open_
  have H1 := Lib.hid (fun w' (hb : Below w.heap.size w w') => ValidBarrel_i _ [] st bl w' (hv.below hb))
  have HB := Lib.hid hs
  clear hv hs
  go_enter Try.func35, Try.ntmps35
  have HK0 := Lib.hid (bx1 w 33 #[.int .i64 st, .int .i64 bl, .slice A ([] : List (Int × Int)).length c])
  go_wp2_with fail
  refine (H1.out _ (by go_grown)).mono ?_
  rintro e w1 ⟨rfl, hb1⟩
  rw [HB.out]
  have J0 := Lib.hid (HK0.out.below hb1)
  have q0 := J0.out.cell 0 rfl
  have q1 := J0.out.cell 1 rfl
  have q2 := J0.out.cell 2 rfl
  have z0 := J0.out.lt
  have B1 : Below w.heap.size w w1 := Below.trans (by go_grown) (hb1.mono (by first | (simp; done) | (simp; omega) | omega))
  clear hb1 HK0
  go_wp2
  try simp only [Exit.inBlock, Exit.then]
  refine bodyPost_ret (v := .tuple #[.int .i64 (0), .int .i64 3]) ?_ rfl ?_
  · simp [results, Try.results35, go_sem]
  exact ⟨rfl, by go_grown⟩

set_option maxHeartbeats 2000000 in
theorem ClosestPins_s2 (v : Value) (st bl : Int) (w : World) (hv : SlP w v []) (hs : brB st bl [] = true) :
    Calls Try.prog 36 #[.agg #[.int .i64 st, .int .i64 bl, v]] w fun e w' => e = .returned (.tuple #[.int .i64 (0), .int .i64 3]) ∧ Below w.heap.size w w' := by
  obtain ⟨A, c, rfl, hac, hac', _⟩ := hv.open_
  have H1 := Lib.hid (fun w' (hb : Below w.heap.size w w') => l22Ok_s _ [] st bl w' (hv.below hb))
  have HB := Lib.hid hs
  clear hv hs
  go_enter Try.func36, Try.ntmps36
  have HK0 := Lib.hid (bx1 w 33 #[.int .i64 st, .int .i64 bl, .slice A ([] : List (Int × Int)).length c])
  go_wp2_with fail
  refine (H1.out _ (by go_grown)).mono ?_
  rintro e w1 ⟨rfl, hb1⟩
  rw [HB.out]
  have J0 := Lib.hid (HK0.out.below hb1)
  have q0 := J0.out.cell 0 rfl
  have q1 := J0.out.cell 1 rfl
  have q2 := J0.out.cell 2 rfl
  have z0 := J0.out.lt
  have B1 : Below w.heap.size w w1 := Below.trans (by go_grown) (hb1.mono (by first | (simp; done) | (simp; omega) | omega))
  clear hb1 HK0
  go_wp2
  try simp only [Exit.inBlock, Exit.then]
  refine bodyPost_ret (v := .tuple #[.int .i64 (0), .int .i64 3]) ?_ rfl ?_
  · simp [results, Try.results36, go_sem]
  exact ⟨rfl, by go_grown⟩

set_option maxRecDepth 100000 in
set_option maxHeartbeats 16000000 in
theorem ClosestPins_i0 (v : Value) (ps : List (Int × Int)) (st bl : Int) (w : World) (hv : SlP w v ps) (hs : brB st bl ps = true) (hne : ps.length ≠ 0) :
    Calls Try.prog 35 #[.agg #[.int .i64 st, .int .i64 bl, v]] w fun e w' => e = .returned (.tuple #[.int .i64 (cout st ps ps.length), .int .i64 0]) ∧ Below w.heap.size w w' := by
  obtain ⟨A, c, rfl, hac, hac', HA⟩ := hv.open_
  obtain ⟨⟨s1, s2⟩, ⟨l1, l2⟩, h3, hP⟩ := brB_iff.1 hs
  have H1 := Lib.hid (fun w' (hb : Below w.heap.size w w') => ValidBarrel_i _ ps st bl w' (hv.below hb))
  have HB := Lib.hid hs
  have HPI := Lib.hid (fun k (hk : k < ps.length) => pins_in hP hk)
  have HAP := Lib.hid (fun i j (hi : i < ps.length) (hj : j < ps.length) => pins_apart hP hi hj)
  have hne0 : ((ps.length : Int) == 0) = false := by simpa using hne
  clear hv hs hP hne
  go_enter Try.func35, Try.ntmps35
  have HK0 := Lib.hid (bx1 w 33 #[.int .i64 st, .int .i64 bl, .slice A ps.length c])
  go_wp2_with fail
  refine (H1.out _ (by go_grown)).mono ?_
  rintro e w1 ⟨rfl, hb1⟩
  rw [HB.out]
  have J0 := Lib.hid (HK0.out.below hb1)
  have q0 := J0.out.cell 0 rfl
  have q1 := J0.out.cell 1 rfl
  have q2 := J0.out.cell 2 rfl
  have z0 := J0.out.lt
  have B1 : Below w.heap.size w w1 := Below.trans (by go_grown) (hb1.mono (by first | (simp; done) | (simp; omega) | omega))
  clear hb1 HK0
  go_wp2_with fail
  go_loopw [4, 21] (fun x i wr => ∃ k : Nat, k ≤ ps.length ∧ i = .int .i64 k ∧ x = .int .i64 (cout st ps k) ∧ Blk wr w.heap.size 33 #[.int .i64 st, .int .i64 bl, .slice A ps.length c] ∧ Below w.heap.size w wr) (fun _ i _ => ps.length - (intOf i).toNat)
  case atStart => exact ⟨0, Nat.zero_le _, rfl, rfl, J0.out, by go_grown⟩
  case round =>
    clear q0 q1 q2 z0 B1
    obtain ⟨k, hk, rfl, rfl, b0, hB⟩ := hrel
    obtain ⟨wo, rfl⟩ : ∃ x : World, x = wr := ⟨_, rfl⟩
    have q0 := b0.cell 0 rfl
    have q1 := b0.cell 1 rfl
    have q2 := b0.cell 2 rfl
    have z0 := b0.lt
    have P0 := Lib.hid b0
    clear b0
    by_cases hlt : k < ps.length
    · have i1 : (k : Int) < (ps.length : Int) := by omega
      have i3 : (ps.length : Int) ≤ (c : Int) := by omega
      obtain ⟨ba, oa, rfl, hba, hca⟩ := HA.out k hlt
      have HCA := Lib.hid (fun (w' : World) (hb : Below w.heap.size w w') j (hj : j < ps.length) => (⟨(hb.cell (p := ⟨ba, oa + j * 2, none⟩) hba).trans (hca j hj).1, (hb.cell (p := ⟨ba, oa + (j * 2 + 1), none⟩) hba).trans (hca j hj).2⟩ : w'.cell? ⟨ba, oa + j * 2, none⟩ = some (.int .i64 (pi ps j).1) ∧ w'.cell? ⟨ba, oa + j * 2 + 1, none⟩ = some (.int .i64 (pi ps j).2)))
      obtain ⟨⟨p1, p2⟩, p3, p4⟩ := HPI.out k hlt
      clear hca HA
      obtain ⟨a0, a1⟩ := HCA.out _ hB k hlt
      have zb : ba < wo.heap.size := Nat.lt_of_lt_of_le hba hB.size
      go_wp2_with fail
      have HN : Hid (∀ w2 : World, w2 = wo.alloc (.cells #[.int .i64 (pi ps k).1, .int .i64 (pi ps k).2] 62) → Blk w2 w.heap.size 33 #[.int .i64 st, .int .i64 bl, .slice (some ⟨ba, oa, none⟩) ps.length c] ∧ Blk w2 wo.heap.size 62 #[.int .i64 (pi ps k).1, .int .i64 (pi ps k).2] ∧ Below w.heap.size w w2) := by
        rintro w2 rfl
        exact ⟨P0.out.alloc _, Blk.new _ _ _, by go_grown⟩
      go_loopw [4, 28] (fun y j wi => ∃ m : Nat, m ≤ ps.length ∧ j = .int .i64 m ∧ y = .int .i64 (cin st ps (pi ps k) (cout st ps k) m) ∧ Blk wi w.heap.size 33 #[.int .i64 st, .int .i64 bl, .slice (some ⟨ba, oa, none⟩) ps.length c] ∧ Blk wi wo.heap.size 62 #[.int .i64 (pi ps k).1, .int .i64 (pi ps k).2] ∧ Below w.heap.size w wi) (fun _ j _ => ps.length - (intOf j).toNat)
      case atStart => obtain ⟨g0, g1, g2⟩ := HN.out _ rfl; exact ⟨0, Nat.zero_le _, rfl, rfl, g0, g1, g2⟩
      case round =>
        clear q0 q1 q2 z0 a0 a1 zb HN
        obtain ⟨m, hm, rfl, rfl, b0, b1, hB2⟩ := hrel
        have q0 := b0.cell 0 rfl
        have q2 := b0.cell 2 rfl
        have z0 := b0.lt
        have u0 := b1.cell 0 rfl
        have u1 := b1.cell 1 rfl
        have z1 := b1.lt
        have P0 := Lib.hid b0
        have P1 := Lib.hid b1
        clear b0 b1
        by_cases hlm : m < ps.length
        · have j1 : (m : Int) < (ps.length : Int) := by omega
          obtain ⟨a0, a1⟩ := HCA.out _ hB2 m hlm
          obtain ⟨⟨r1, r2⟩, r3, r4⟩ := HPI.out m hlm
          have zb : ba < wr.heap.size := Nat.lt_of_lt_of_le hba hB2.size
          have zb2 : ba < wr.heap.size + 1 := by omega
          have z02 : w.heap.size < wr.heap.size + 1 := by omega
          have z12 : wo.heap.size < wr.heap.size + 1 := by omega
          have n0 : ¬ w.heap.size = wr.heap.size := by omega
          have n1 : ¬ wo.heap.size = wr.heap.size := by omega
          have n2 : ¬ ba = wr.heap.size := by omega
          have HD0 : Hid (Blk (wr.alloc (.cells #[.int .i64 (pi ps m).1, .int .i64 (pi ps m).2] 62)) w.heap.size 33 #[.int .i64 st, .int .i64 bl, .slice (some ⟨ba, oa, none⟩) ps.length c]) := P0.out.alloc _
          have HD1 : Hid (Blk (wr.alloc (.cells #[.int .i64 (pi ps m).1, .int .i64 (pi ps m).2] 62)) wo.heap.size 62 #[.int .i64 (pi ps k).1, .int .i64 (pi ps k).2]) := P1.out.alloc _
          by_cases hbe : (pi ps k).2 = (pi ps m).2
          · have e1 : ((pi ps k).2 == (pi ps m).2) = true := by simp [hbe]
            by_cases hse : (pi ps k).1 = (pi ps m).1
            · have e2 : ((pi ps k).1 != (pi ps m).1) = false := by simp [hse]
              have HC : Hid (cin st ps (pi ps k) (cout st ps k) (m + 1) = cin st ps (pi ps k) (cout st ps k) m) := cstep_same hse
              clear hbe hse
              go_wp2_with fail
              go_roundw
              case rel => exact ⟨m + 1, by omega, by go_num, by rw [HC.out], HD0.out, HD1.out, by go_grown⟩
              case measure => simp [intOf]; omega
            · have e2 : ((pi ps k).1 != (pi ps m).1) = true := by simp [hse]
              have e3 : IntKind.i64.wrap ((pi ps m).1 - (pi ps k).1) = (pi ps m).1 - (pi ps k).1 := IntWalk.i64_in _ (by omega)
              have HM := Lib.hid (fun w' => floorMod_any ((pi ps m).1 - (pi ps k).1) st w' (by omega) (by omega) (by omega) (by omega))
              by_cases hmi : ((pi ps m).1 - (pi ps k).1) % st < cin st ps (pi ps k) (cout st ps k) m
              · have HC : Hid (cin st ps (pi ps k) (cout st ps k) (m + 1) = ((pi ps m).1 - (pi ps k).1) % st) := cstep_lt hbe hse hmi
                clear hbe hse
                go_wp2_with (go_at_call 72; refine (HM.out _).mono ?_; rintro e w' ⟨rfl, rfl⟩)
                go_roundw
                case rel => exact ⟨m + 1, by omega, by go_num, by rw [HC.out], HD0.out, HD1.out, by go_grown⟩
                case measure => simp [intOf]; omega
              · have HC : Hid (cin st ps (pi ps k) (cout st ps k) (m + 1) = cin st ps (pi ps k) (cout st ps k) m) := cstep_ge hbe hse hmi
                clear hbe hse
                go_wp2_with (go_at_call 72; refine (HM.out _).mono ?_; rintro e w' ⟨rfl, rfl⟩)
                go_roundw
                case rel => exact ⟨m + 1, by omega, by go_num, by rw [HC.out], HD0.out, HD1.out, by go_grown⟩
                case measure => simp [intOf]; omega
          · have e1 : ((pi ps k).2 == (pi ps m).2) = false := by simp [hbe]
            have HC : Hid (cin st ps (pi ps k) (cout st ps k) (m + 1) = cin st ps (pi ps k) (cout st ps k) m) := cstep_bell hbe
            clear hbe
            go_wp2_with fail
            go_roundw
            case rel => exact ⟨m + 1, by omega, by go_num, by rw [HC.out], HD0.out, HD1.out, by go_grown⟩
            case measure => simp [intOf]; omega
        · obtain rfl : m = ps.length := by omega
          go_wp2_with fail
          go_roundw
          case rel => exact ⟨k + 1, by omega, by go_num, rfl, P0.out, hB2⟩
          case measure => simp [intOf]; omega
    · obtain rfl : k = ps.length := by omega
      clear HA
      go_wp2
      try simp only [Exit.inBlock, Exit.then]
      refine bodyPost_ret (v := .tuple #[.int .i64 (cout st ps ps.length), .int .i64 0]) ?_ rfl ?_
      · simp [results, Try.results35, go_sem]
      exact ⟨rfl, by go_grown⟩

set_option maxRecDepth 100000 in
set_option maxHeartbeats 16000000 in
theorem ClosestPins_s0 (v : Value) (ps : List (Int × Int)) (st bl : Int) (w : World) (hv : SlP w v ps) (hs : brB st bl ps = true) (hne : ps.length ≠ 0) :
    Calls Try.prog 36 #[.agg #[.int .i64 st, .int .i64 bl, v]] w fun e w' => e = .returned (.tuple #[.int .i64 (cout st ps ps.length), .int .i64 0]) ∧ Below w.heap.size w w' := by
  obtain ⟨A, c, rfl, hac, hac', HA⟩ := hv.open_
  obtain ⟨⟨s1, s2⟩, ⟨l1, l2⟩, h3, hP⟩ := brB_iff.1 hs
  have H1 := Lib.hid (fun w' (hb : Below w.heap.size w w') => l22Ok_s _ ps st bl w' (hv.below hb))
  have HB := Lib.hid hs
  have HPI := Lib.hid (fun k (hk : k < ps.length) => pins_in hP hk)
  have HAP := Lib.hid (fun i j (hi : i < ps.length) (hj : j < ps.length) => pins_apart hP hi hj)
  have hne0 : ((ps.length : Int) == 0) = false := by simpa using hne
  clear hv hs hP hne
  go_enter Try.func36, Try.ntmps36
  have HK0 := Lib.hid (bx1 w 33 #[.int .i64 st, .int .i64 bl, .slice A ps.length c])
  go_wp2_with fail
  refine (H1.out _ (by go_grown)).mono ?_
  rintro e w1 ⟨rfl, hb1⟩
  rw [HB.out]
  have J0 := Lib.hid (HK0.out.below hb1)
  have q0 := J0.out.cell 0 rfl
  have q1 := J0.out.cell 1 rfl
  have q2 := J0.out.cell 2 rfl
  have z0 := J0.out.lt
  have B1 : Below w.heap.size w w1 := Below.trans (by go_grown) (hb1.mono (by first | (simp; done) | (simp; omega) | omega))
  clear hb1 HK0
  go_wp2_with fail
  go_loopw [4, 5] (fun x i wr => ∃ k : Nat, k ≤ ps.length ∧ i = .int .i64 k ∧ x = .int .i64 (cout st ps k) ∧ Blk wr w.heap.size 33 #[.int .i64 st, .int .i64 bl, .slice A ps.length c] ∧ Below w.heap.size w wr) (fun _ i _ => ps.length - (intOf i).toNat)
  case atStart => exact ⟨0, Nat.zero_le _, rfl, rfl, J0.out, by go_grown⟩
  case round =>
    clear q0 q1 q2 z0 B1
    obtain ⟨k, hk, rfl, rfl, b0, hB⟩ := hrel
    obtain ⟨wo, rfl⟩ : ∃ x : World, x = wr := ⟨_, rfl⟩
    have q0 := b0.cell 0 rfl
    have q1 := b0.cell 1 rfl
    have q2 := b0.cell 2 rfl
    have z0 := b0.lt
    have P0 := Lib.hid b0
    clear b0
    by_cases hlt : k < ps.length
    · have i1 : (k : Int) < (ps.length : Int) := by omega
      have i3 : (ps.length : Int) ≤ (c : Int) := by omega
      obtain ⟨ba, oa, rfl, hba, hca⟩ := HA.out k hlt
      have HCA := Lib.hid (fun (w' : World) (hb : Below w.heap.size w w') j (hj : j < ps.length) => (⟨(hb.cell (p := ⟨ba, oa + j * 2, none⟩) hba).trans (hca j hj).1, (hb.cell (p := ⟨ba, oa + (j * 2 + 1), none⟩) hba).trans (hca j hj).2⟩ : w'.cell? ⟨ba, oa + j * 2, none⟩ = some (.int .i64 (pi ps j).1) ∧ w'.cell? ⟨ba, oa + j * 2 + 1, none⟩ = some (.int .i64 (pi ps j).2)))
      obtain ⟨⟨p1, p2⟩, p3, p4⟩ := HPI.out k hlt
      clear hca HA
      go_wp2_with fail
      go_loopw [4, 6] (fun y j wi => ∃ m : Nat, m ≤ ps.length ∧ j = .int .i64 m ∧ y = .int .i64 (cin st ps (pi ps k) (cout st ps k) m) ∧ Blk wi w.heap.size 33 #[.int .i64 st, .int .i64 bl, .slice (some ⟨ba, oa, none⟩) ps.length c] ∧ Below w.heap.size w wi) (fun _ j _ => ps.length - (intOf j).toNat)
      case atStart => exact ⟨0, Nat.zero_le _, rfl, rfl, P0.out, hB⟩
      case round =>
        clear q0 q1 q2 z0
        obtain ⟨m, hm, rfl, rfl, b0, hB2⟩ := hrel
        have q0 := b0.cell 0 rfl
        have q2 := b0.cell 2 rfl
        have z0 := b0.lt
        have P0 := Lib.hid b0
        clear b0
        by_cases hlm : m < ps.length
        · have j1 : (m : Int) < (ps.length : Int) := by omega
          obtain ⟨a0, a1⟩ := HCA.out _ hB2 m hlm
          obtain ⟨d0, d1⟩ := HCA.out _ hB2 k hlt
          obtain ⟨⟨r1, r2⟩, r3, r4⟩ := HPI.out m hlm
          have zb : ba < wr.heap.size := Nat.lt_of_lt_of_le hba hB2.size
          have HDR := Lib.hid (fun n => P0.out.drewN n)
          by_cases hkm : k = m
          · subst hkm
            have e0 : ((k : Int) != (k : Int)) = false := by simp
            have HC : Hid (cin st ps (pi ps k) (cout st ps k) (k + 1) = cin st ps (pi ps k) (cout st ps k) k) := cstep_same rfl
            go_wp2
            go_quiet (fail)
            go_wp2
            go_roundw
            case rel => exact ⟨k + 1, by omega, by go_num, by rw [HC.out], HDR.out _, below_drewN hB2 _⟩
            case measure => simp [intOf]; omega
          · have e0 : ((k : Int) != (m : Int)) = true := by simp; omega
            by_cases hbe : (pi ps k).2 = (pi ps m).2
            · have e1 : ((pi ps k).2 == (pi ps m).2) = true := by simp [hbe]
              have hse : ¬ (pi ps k).1 = (pi ps m).1 := fun h => hkm (HAP.out k m hlt hlm hbe h)
              have e3 : IntKind.i64.wrap ((pi ps m).1 - (pi ps k).1) = (pi ps m).1 - (pi ps k).1 := IntWalk.i64_in _ (by omega)
              have HM := Lib.hid (fun w' => l19Mod_any ((pi ps m).1 - (pi ps k).1) st w' (by omega) (by omega) (by omega) (by omega))
              by_cases hmi : cin st ps (pi ps k) (cout st ps k) m < ((pi ps m).1 - (pi ps k).1) % st
              · have HC : Hid (cin st ps (pi ps k) (cout st ps k) (m + 1) = cin st ps (pi ps k) (cout st ps k) m) := cstep_ge hbe hse (by omega)
                have HMI := Lib.hid (fun w' => l00Min_lt hmi w')
                clear hbe hse hkm
                go_wp2
                go_quiet (fail)
                go_wp2
                go_quiet (first | (go_at_call 74; exact quiet_add_same ((HM.out _).mono fun _ _ h => ⟨h.1, h.2.symm⟩)) | (go_at_call 73; exact quiet_add_same ((HMI.out _).mono fun _ _ h => ⟨h.1, h.2.symm⟩)))
                go_wp2
                go_roundw
                case rel => exact ⟨m + 1, by omega, by go_num, by rw [HC.out], HDR.out _, below_drewN hB2 _⟩
                case measure => simp [intOf]; omega
              · have HC : Hid (cin st ps (pi ps k) (cout st ps k) (m + 1) = ((pi ps m).1 - (pi ps k).1) % st) := cstep_le hbe hse (by omega)
                have HMI := Lib.hid (fun w' => l00Min_ge hmi w')
                clear hbe hse hkm
                go_wp2
                go_quiet (fail)
                go_wp2
                go_quiet (first | (go_at_call 74; exact quiet_add_same ((HM.out _).mono fun _ _ h => ⟨h.1, h.2.symm⟩)) | (go_at_call 73; exact quiet_add_same ((HMI.out _).mono fun _ _ h => ⟨h.1, h.2.symm⟩)))
                go_wp2
                go_roundw
                case rel => exact ⟨m + 1, by omega, by go_num, by rw [HC.out], HDR.out _, below_drewN hB2 _⟩
                case measure => simp [intOf]; omega
            · have e1 : ((pi ps k).2 == (pi ps m).2) = false := by simp [hbe]
              have HC : Hid (cin st ps (pi ps k) (cout st ps k) (m + 1) = cin st ps (pi ps k) (cout st ps k) m) := cstep_bell hbe
              clear hbe hkm
              go_wp2
              go_quiet (fail)
              go_wp2
              go_roundw
              case rel => exact ⟨m + 1, by omega, by go_num, by rw [HC.out], HDR.out _, below_drewN hB2 _⟩
              case measure => simp [intOf]; omega
        · obtain rfl : m = ps.length := by omega
          go_wp2_with fail
          go_roundw
          case rel => exact ⟨k + 1, by omega, by go_num, rfl, P0.out, hB2⟩
          case measure => simp [intOf]; omega
    · obtain rfl : k = ps.length := by omega
      clear HA
      go_wp2
      try simp only [Exit.inBlock, Exit.then]
      refine bodyPost_ret (v := .tuple #[.int .i64 (cout st ps ps.length), .int .i64 0]) ?_ rfl ?_
      · simp [results, Try.results36, go_sem]
      exact ⟨rfl, by go_grown⟩

theorem ClosestPins_both (st bl : Int) (ps : List (Int × Int)) : ∃ ra rb : Int,
    (∀ v w, SlP w v ps → Calls Try.prog 35 #[.agg #[.int .i64 st, .int .i64 bl, v]] w fun e w' => e = .returned (.tuple #[.int .i64 ra, .int .i64 rb]) ∧ Below w.heap.size w w') ∧
    (∀ v w, SlP w v ps → Calls Try.prog 36 #[.agg #[.int .i64 st, .int .i64 bl, v]] w fun e w' => e = .returned (.tuple #[.int .i64 ra, .int .i64 rb]) ∧ Below w.heap.size w w') := by
  cases hs : brB st bl ps with
  | false => exact ⟨_, _, fun v w hv => ClosestPins_i1 v ps st bl w hv hs, fun v w hv => ClosestPins_s1 v ps st bl w hv hs⟩
  | true =>
    cases ps with
    | nil => exact ⟨_, _, fun v w hv => ClosestPins_i2 v st bl w hv hs, fun v w hv => ClosestPins_s2 v st bl w hv hs⟩
    | cons p ps => exact ⟨_, _, fun v w hv => ClosestPins_i0 v _ st bl w hv hs (by simp), fun v w hv => ClosestPins_s0 v _ st bl w hv hs (by simp)⟩
end Go.Proofs.Ytgaohmbgjjhdbaa
