/- Chimes: which barrels are valid, in the program and in the reference. -/
import Derived.Test.YtgaohmbgjjhdbaaGreatDoorChP
import Derived.Deep.RegionHeld3
namespace Go.Proofs.YtgaohmbgjjhdbaaGreatDoor
open Go.RowKit
attribute [local go_sem ↓] Go.wp_at_zero Go.wp_at_succ
attribute [local go_sem] cell?_grow frozen?_grow

/-- Pin j lies on the barrel and comes behind the one before it. -/
def PinOk (st bl : Int) (ps : List (Int × Int)) (j : Nat) : Prop := inB (pi ps j).1 0 (st - 1) = true ∧ inB (pi ps j).2 0 (bl - 1) = true ∧ (0 < j → befP (pi ps (j - 1)) (pi ps j) = true)
instance (st bl : Int) (ps : List (Int × Int)) (j : Nat) : Decidable (PinOk st bl ps j) := inferInstanceAs (Decidable (_ ∧ _))
def PinsTo (st bl : Int) (ps : List (Int × Int)) (k : Nat) : Prop := ∀ j, j < k → PinOk st bl ps j
instance (st bl : Int) (ps : List (Int × Int)) (k : Nat) : Decidable (PinsTo st bl ps k) := inferInstanceAs (Decidable (∀ j, j < k → PinOk st bl ps j))
theorem PinsTo.zero (st bl : Int) (ps : List (Int × Int)) : PinsTo st bl ps 0 := fun _ h => absurd h (Nat.not_lt_zero _)
theorem PinsTo.succ {st bl : Int} {ps : List (Int × Int)} {k : Nat} (h : PinsTo st bl ps k) (he : PinOk st bl ps k) : PinsTo st bl ps (k + 1) := fun j hj => by
  rcases Nat.lt_or_ge j k with h1 | h1
  · exact h j h1
  · have : j = k := by omega
    subst this; exact he
def brB (st bl : Int) (ps : List (Int × Int)) : Bool := inB st 1 64 && (inB bl 1 8 && (decide (ps.length ≤ 128) && decide (PinsTo st bl ps ps.length)))
theorem brB_iff {st bl : Int} {ps : List (Int × Int)} : brB st bl ps = true ↔ (1 ≤ st ∧ st ≤ 64) ∧ (1 ≤ bl ∧ bl ≤ 8) ∧ ps.length ≤ 128 ∧ PinsTo st bl ps ps.length := by simp [brB, inB_iff]
theorem br1 {st bl : Int} {ps : List (Int × Int)} (h : inB st 1 64 = false) : brB st bl ps = false := by simp [brB, h]
theorem br2 {st bl : Int} {ps : List (Int × Int)} (h : inB bl 1 8 = false) : brB st bl ps = false := by simp [brB, h]
theorem br3 {st bl : Int} {ps : List (Int × Int)} (h : ¬ ps.length ≤ 128) : brB st bl ps = false := by simp [brB]; intros; omega
theorem br_f {st bl : Int} {ps : List (Int × Int)} {k : Nat} (hk : k < ps.length) (h : ¬ PinOk st bl ps k) : brB st bl ps = false := by
  have : ¬ PinsTo st bl ps ps.length := fun e => h (e k hk)
  simp [brB, this]
theorem br_t {st bl : Int} {ps : List (Int × Int)} {k : Nat} (h1 : inB st 1 64 = true) (h2 : inB bl 1 8 = true) (h3 : ps.length ≤ 128) (h : PinsTo st bl ps k) (hk : ps.length ≤ k) : brB st bl ps = true := by
  have : PinsTo st bl ps ps.length := fun j hj => h j (by omega)
  simp [brB, h1, h2, h3, this]
theorem within_r (n lo hi : Int) (b : Bool) (w : World) (h : inB n lo hi = b) :
    Calls Tryz.prog 43 #[.int .i64 n, .int .i64 lo, .int .i64 hi] w fun e w' => e = .returned (.bool b) ∧ w = w' :=
  (within_any n lo hi w).mono fun _ _ ⟨he, hw⟩ => ⟨by rw [he, h], hw⟩
theorem l00In_r (n lo hi : Int) (b : Bool) (w : World) (h : inB n lo hi = b) :
    Calls Tryz.prog 48 #[.int .i64 n, .int .i64 lo, .int .i64 hi] w fun e w' => e = .returned (.bool b) ∧ w = w' :=
  (l00In_any n lo hi w).mono fun _ _ ⟨he, hw⟩ => ⟨by rw [he, h], hw⟩
theorem l22Before_r (p q : Int × Int) (b : Bool) (w : World) (h : befP p q = b) :
    Calls Tryz.prog 49 #[.agg #[.int .i64 p.1, .int .i64 p.2], .agg #[.int .i64 q.1, .int .i64 q.2]] w fun e w' => e = .returned (.bool b) ∧ Below w.heap.size w w' :=
  (l22Before_any p q w).mono fun _ _ ⟨he, hw⟩ => ⟨by rw [he, h], hw⟩

set_option maxHeartbeats 2000000 in
theorem ValidBarrel_i1 (v : Value) (ps : List (Int × Int)) (st bl : Int) (w : World) (hv : SlP w v ps) (h1 : inB st 1 64 = false) :
    Calls Tryz.prog 21 #[.agg #[.int .i64 st, .int .i64 bl, v]] w fun e w' => e = .returned (.bool (brB st bl ps)) ∧ Below w.heap.size w w' := by
  obtain ⟨A, c, rfl, hac, hac', _⟩ := hv.open_
  have HX := Lib.hid (br1 (st := st) (bl := bl) (ps := ps) h1)
  clear hv
  have H1 := Lib.hid h1
  clear h1
  go_enter Tryz.func21, Tryz.ntmps21
  go_wp2_with fail
  refine (within_any _ _ _ _).mono ?_
  rintro e w' ⟨rfl, rfl⟩
  rw [H1.out]
  go_wp2
  go_ret
  exact ⟨ret_b HX.out.symm, by go_grown⟩
set_option maxHeartbeats 2000000 in
theorem ValidBarrel_i2 (v : Value) (ps : List (Int × Int)) (st bl : Int) (w : World) (hv : SlP w v ps) (h1 : inB st 1 64 = true) (h2 : inB bl 1 8 = false) :
    Calls Tryz.prog 21 #[.agg #[.int .i64 st, .int .i64 bl, v]] w fun e w' => e = .returned (.bool (brB st bl ps)) ∧ Below w.heap.size w w' := by
  obtain ⟨A, c, rfl, hac, hac', _⟩ := hv.open_
  have HX := Lib.hid (br2 (st := st) (bl := bl) (ps := ps) h2)
  clear hv
  have H1 := Lib.hid h1
  have H2 := Lib.hid h2
  clear h1 h2
  go_enter Tryz.func21, Tryz.ntmps21
  go_wp2_with fail
  refine (within_any _ _ _ _).mono ?_
  rintro e w' ⟨rfl, rfl⟩
  rw [H1.out]
  go_wp2_with fail
  refine (within_any _ _ _ _).mono ?_
  rintro e w' ⟨rfl, rfl⟩
  rw [H2.out]
  go_wp2
  go_ret
  exact ⟨ret_b HX.out.symm, by go_grown⟩
set_option maxHeartbeats 2000000 in
theorem ValidBarrel_i3 (v : Value) (ps : List (Int × Int)) (st bl : Int) (w : World) (hv : SlP w v ps) (h1 : inB st 1 64 = true) (h2 : inB bl 1 8 = true) (h3 : ¬ ps.length ≤ 128) :
    Calls Tryz.prog 21 #[.agg #[.int .i64 st, .int .i64 bl, v]] w fun e w' => e = .returned (.bool (brB st bl ps)) ∧ Below w.heap.size w w' := by
  obtain ⟨A, c, rfl, hac, hac', _⟩ := hv.open_
  have HX := Lib.hid (br3 (st := st) (bl := bl) (ps := ps) h3)
  clear hv
  have H1 := Lib.hid h1
  have H2 := Lib.hid h2
  have i3 : (128 : Int) < (ps.length : Int) := by omega
  clear h1 h2 h3
  go_enter Tryz.func21, Tryz.ntmps21
  go_wp2_with fail
  refine (within_any _ _ _ _).mono ?_
  rintro e w' ⟨rfl, rfl⟩
  rw [H1.out]
  go_wp2_with fail
  refine (within_any _ _ _ _).mono ?_
  rintro e w' ⟨rfl, rfl⟩
  rw [H2.out]
  go_wp2
  go_ret
  exact ⟨ret_b HX.out.symm, by go_grown⟩
set_option maxRecDepth 100000 in
set_option maxHeartbeats 16000000 in
theorem ValidBarrel_i0 (v : Value) (ps : List (Int × Int)) (st bl : Int) (w : World) (hv : SlP w v ps) (h1 : inB st 1 64 = true) (h2 : inB bl 1 8 = true) (h3 : ps.length ≤ 128) :
    Calls Tryz.prog 21 #[.agg #[.int .i64 st, .int .i64 bl, v]] w fun e w' => e = .returned (.bool (brB st bl ps)) ∧ Below w.heap.size w w' := by
  obtain ⟨A, c, rfl, hac, hac', HA⟩ := hv.open_
  obtain ⟨s1, s2⟩ := inB_iff.1 h1
  obtain ⟨l1, l2⟩ := inB_iff.1 h2
  have HT := Lib.hid (fun k (h : PinsTo st bl ps k) (hk : ps.length ≤ k) => br_t h1 h2 h3 h hk)
  have H1 := Lib.hid h1
  have H2 := Lib.hid h2
  have i0 : (ps.length : Int) ≤ 128 := by omega
  have e1 : IntKind.i64.wrap (st - 1) = st - 1 := IntWalk.i64_in _ (by omega)
  have e2 : IntKind.i64.wrap (bl - 1) = bl - 1 := IntWalk.i64_in _ (by omega)
  have E1 := Lib.hid e1
  have E2 := Lib.hid e2
  clear hv h1 h2 e1 e2
  go_enter Tryz.func21, Tryz.ntmps21
  have HK0 := Lib.hid (bx1 w 26 #[.int .i64 st, .int .i64 bl, .slice A ps.length c])
  go_wp2_with fail
  refine (within_any _ _ _ _).mono ?_
  rintro e w' ⟨rfl, rfl⟩
  rw [H1.out]
  go_wp2_with fail
  refine (within_any _ _ _ _).mono ?_
  rintro e w' ⟨rfl, rfl⟩
  rw [H2.out]
  go_wp2_with fail
  go_loopw [24] (fun i wr => ∃ k : Nat, k ≤ ps.length ∧ i = .int .i64 k ∧ PinsTo st bl ps k ∧ Blk wr w.heap.size 26 #[.int .i64 st, .int .i64 bl, .slice A ps.length c] ∧ Below w.heap.size w wr) (fun i _ => ps.length - (intOf i).toNat)
  case atStart => exact ⟨0, Nat.zero_le _, rfl, PinsTo.zero _ _ _, HK0.out, by go_grown⟩
  case round =>
    obtain ⟨k, hk, rfl, hup, b0, hB⟩ := hrel
    have q0 := b0.cell 0 rfl
    have q1 := b0.cell 1 rfl
    have q2 := b0.cell 2 rfl
    have z0 := b0.lt
    have P0 := Lib.hid b0
    have HU := Lib.hid hup
    clear b0 hup
    by_cases hlt : k < ps.length
    · obtain ⟨ba, oa, rfl, hba, hca⟩ := HA.out k hlt
      have a0 : wr.cell? ⟨ba, oa + k * 2, none⟩ = _ := (hB.cell (p := ⟨ba, oa + k * 2, none⟩) hba).trans (hca k hlt).1
      have a1 : wr.cell? ⟨ba, oa + k * 2 + 1, none⟩ = _ := (hB.cell (p := ⟨ba, oa + (k * 2 + 1), none⟩) hba).trans (hca k hlt).2
      have zb : ba < wr.heap.size := Nat.lt_of_lt_of_le hba hB.size
      have i1 : (k : Int) < (ps.length : Int) := by omega
      have i2 : (0 : Int) ≤ (k : Int) := by omega
      have i3 : (ps.length : Int) ≤ (c : Int) := by omega
      have zc : ba < wr.heap.size + 1 := by omega
      have zd : w.heap.size < wr.heap.size + 1 := by omega
      have nb : ¬ ba = wr.heap.size := by omega
      have nc : ¬ w.heap.size = wr.heap.size := by omega
      have HCA := Lib.hid (fun j (hj : j < ps.length) => (⟨(hB.cell (p := ⟨ba, oa + j * 2, none⟩) hba).trans (hca j hj).1, (hB.cell (p := ⟨ba, oa + (j * 2 + 1), none⟩) hba).trans (hca j hj).2⟩ : wr.cell? ⟨ba, oa + j * 2, none⟩ = some (.int .i64 (pi ps j).1) ∧ wr.cell? ⟨ba, oa + j * 2 + 1, none⟩ = some (.int .i64 (pi ps j).2)))
      clear hca HA
      cases h4 : inB (pi ps k).1 0 (st - 1) with
      | false =>
        have HX := Lib.hid (br_f (st := st) (bl := bl) hlt (fun e => by rw [e.1] at h4; cases h4))
        have H4 := Lib.hid h4
        clear h4
        have e1 := E1.out
        have e2 := E2.out
        go_wp2_with fail
        refine wp_region_grow (by kernel_rfl) (by kernel_rfl) ?_
        repeat (go_big_quiet_step (((go_at_call 43; first | with_reducible exact grow_same (within_r (pi ps k).1 0 (st - 1) _ _ H4.out)))))
        refine wpQuiet_nil ?_
        intro w6 hb6
        have B6 : Below w.heap.size w w6 := Below.trans (by go_grown) (hb6.mono (by simp; omega))
        have D6 : Below wr.heap.size wr w6 := Below.trans (by go_grown) (hb6.mono (by simp))
        have G6 := Lib.hid (P0.out.below D6)
        clear hb6 D6 e1 e2 a0 a1 q0 q1 q2
        go_wp2
        go_ret
        exact ⟨ret_b HX.out.symm, B6⟩
      | true =>
        have H4 := Lib.hid h4
        cases h5 : inB (pi ps k).2 0 (bl - 1) with
        | false =>
          have HX := Lib.hid (br_f (st := st) (bl := bl) hlt (fun e => by rw [e.2.1] at h5; cases h5))
          have H5 := Lib.hid h5
          clear h4 h5
          have e1 := E1.out
          have e2 := E2.out
          go_wp2_with fail
          refine wp_region_grow (by kernel_rfl) (by kernel_rfl) ?_
          repeat (go_big_quiet_step (((go_at_call 43; first | with_reducible exact grow_same (within_r (pi ps k).1 0 (st - 1) _ _ H4.out) | with_reducible exact grow_same (within_r (pi ps k).2 0 (bl - 1) _ _ H5.out)))))
          refine wpQuiet_nil ?_
          intro w6 hb6
          have B6 : Below w.heap.size w w6 := Below.trans (by go_grown) (hb6.mono (by simp; omega))
          have D6 : Below wr.heap.size wr w6 := Below.trans (by go_grown) (hb6.mono (by simp))
          have G6 := Lib.hid (P0.out.below D6)
          clear hb6 D6 e1 e2 a0 a1 q0 q1 q2
          go_wp2
          go_ret
          exact ⟨ret_b HX.out.symm, B6⟩
        | true =>
          have H5 := Lib.hid h5
          by_cases h0 : 0 < k
          · obtain ⟨d0, d1⟩ := HCA.out (k - 1) (by omega)
            have j1 : (0 : Int) < (k : Int) := by omega
            have j2 : decide ((0 : Int) < (k : Int)) = true := decide_eq_true j1
            have j3 : decide (0 < k) = true := decide_eq_true h0
            have j4 : 0 ≤ (k : Int) - 1 := by omega
            have j5 : (k : Int) - 1 < (ps.length : Int) := by omega
            cases h6 : befP (pi ps (k - 1)) (pi ps k) with
            | false =>
              have HX := Lib.hid (br_f (st := st) (bl := bl) hlt (fun e => by have := e.2.2 h0; rw [h6] at this; cases this))
              have j6 : decide (0 ≤ cmpP (pi ps (k - 1)) (pi ps k)) = true := by rw [cmpP_bef, h6]; rfl
              have j7 : 0 ≤ cmpP (pi ps (k - 1)) (pi ps k) := by simpa using j6
              clear h4 h5 h6
              have e1 := E1.out
              have e2 := E2.out
              have e3 : IntKind.i64.wrap ((k : Int) - 1) = (k : Int) - 1 := IntWalk.i64_in _ (by omega)
              have e4 : ((k : Int) - 1).toNat = k - 1 := by omega
              go_wp2_with fail
              refine wp_region_grow (by kernel_rfl) (by kernel_rfl) ?_
              repeat (go_big_quiet_step ((first | (go_at_call 43; first | with_reducible exact grow_same (within_r (pi ps k).1 0 (st - 1) _ _ H4.out) | with_reducible exact grow_same (within_r (pi ps k).2 0 (bl - 1) _ _ H5.out)) | (go_at_call 44; exact grow_of (comparePins_any (pi ps (k - 1)) (pi ps k) _)))))
              refine wpQuiet_nil ?_
              intro w6 hb6
              have B6 : Below w.heap.size w w6 := Below.trans (by go_grown) (hb6.mono (by simp; omega))
              have D6 : Below wr.heap.size wr w6 := Below.trans (by go_grown) (hb6.mono (by simp))
              have G6 := Lib.hid (P0.out.below D6)
              clear hb6 D6 e3 e4 d0 d1 e1 e2 a0 a1 q0 q1 q2
              go_wp2
              go_ret
              exact ⟨ret_b HX.out.symm, B6⟩
            | true =>
              have HU2 := Lib.hid (HU.out.succ ⟨h4, h5, fun _ => h6⟩)
              have j6 : decide (0 ≤ cmpP (pi ps (k - 1)) (pi ps k)) = false := by rw [cmpP_bef, h6]; rfl
              have j7 : cmpP (pi ps (k - 1)) (pi ps k) < 0 := by simpa using j6
              clear h4 h5 h6
              have e1 := E1.out
              have e2 := E2.out
              have e3 : IntKind.i64.wrap ((k : Int) - 1) = (k : Int) - 1 := IntWalk.i64_in _ (by omega)
              have e4 : ((k : Int) - 1).toNat = k - 1 := by omega
              go_wp2_with fail
              refine wp_region_grow (by kernel_rfl) (by kernel_rfl) ?_
              repeat (go_big_quiet_step ((first | (go_at_call 43; first | with_reducible exact grow_same (within_r (pi ps k).1 0 (st - 1) _ _ H4.out) | with_reducible exact grow_same (within_r (pi ps k).2 0 (bl - 1) _ _ H5.out)) | (go_at_call 44; exact grow_of (comparePins_any (pi ps (k - 1)) (pi ps k) _)))))
              refine wpQuiet_nil ?_
              intro w6 hb6
              have B6 : Below w.heap.size w w6 := Below.trans (by go_grown) (hb6.mono (by simp; omega))
              have D6 : Below wr.heap.size wr w6 := Below.trans (by go_grown) (hb6.mono (by simp))
              have G6 := Lib.hid (P0.out.below D6)
              clear hb6 D6 e3 e4 d0 d1 e1 e2 a0 a1 q0 q1 q2
              go_wp2
              go_roundw
              case rel => exact ⟨k + 1, by omega, by go_num, HU2.out, G6.out, B6⟩
              case measure => simp [intOf]; omega
          · have j1 : (k : Int) ≤ 0 := by omega
            have j2 : decide ((0 : Int) < (k : Int)) = false := decide_eq_false (by omega)
            have j3 : decide (0 < k) = false := decide_eq_false h0
            have HU2 := Lib.hid (HU.out.succ ⟨h4, h5, fun e => absurd e h0⟩)
            clear h4 h5 h0
            have e1 := E1.out
            have e2 := E2.out
            go_wp2_with fail
            refine wp_region_grow (by kernel_rfl) (by kernel_rfl) ?_
            repeat (go_big_quiet_step (((go_at_call 43; first | with_reducible exact grow_same (within_r (pi ps k).1 0 (st - 1) _ _ H4.out) | with_reducible exact grow_same (within_r (pi ps k).2 0 (bl - 1) _ _ H5.out)))))
            refine wpQuiet_nil ?_
            intro w6 hb6
            have B6 : Below w.heap.size w w6 := Below.trans (by go_grown) (hb6.mono (by simp; omega))
            have D6 : Below wr.heap.size wr w6 := Below.trans (by go_grown) (hb6.mono (by simp))
            have G6 := Lib.hid (P0.out.below D6)
            clear hb6 D6 e1 e2 a0 a1 q0 q1 q2
            go_wp2
            go_roundw
            case rel => exact ⟨k + 1, by omega, by go_num, HU2.out, G6.out, B6⟩
            case measure => simp [intOf]; omega
    · have HX := Lib.hid (HT.out k HU.out (by omega))
      clear HA
      go_wp2
      go_ret
      exact ⟨ret_b HX.out.symm, hB⟩
theorem ValidBarrel_i (v : Value) (ps : List (Int × Int)) (st bl : Int) (w : World) (hv : SlP w v ps) :
    Calls Tryz.prog 21 #[.agg #[.int .i64 st, .int .i64 bl, v]] w fun e w' => e = .returned (.bool (brB st bl ps)) ∧ Below w.heap.size w w' := by
  cases h1 : inB st 1 64 with
  | false => exact ValidBarrel_i1 v ps st bl w hv h1
  | true =>
    cases h2 : inB bl 1 8 with
    | false => exact ValidBarrel_i2 v ps st bl w hv h1 h2
    | true =>
      by_cases h3 : ps.length ≤ 128
      · exact ValidBarrel_i0 v ps st bl w hv h1 h2 h3
      · exact ValidBarrel_i3 v ps st bl w hv h1 h2 h3
set_option maxHeartbeats 2000000 in
theorem l22Ok_s1 (v : Value) (ps : List (Int × Int)) (st bl : Int) (w : World) (hv : SlP w v ps) (h1 : inB st 1 64 = false) :
    Calls Tryz.prog 25 #[.agg #[.int .i64 st, .int .i64 bl, v]] w fun e w' => e = .returned (.bool (brB st bl ps)) ∧ Below w.heap.size w w' := by
  obtain ⟨A, c, rfl, hac, hac', _⟩ := hv.open_
  have HX := Lib.hid (br1 (st := st) (bl := bl) (ps := ps) h1)
  clear hv
  have H1 := Lib.hid h1
  clear h1
  go_enter Tryz.func25, Tryz.ntmps25
  go_wp2_with fail
  refine (l00In_any _ _ _ _).mono ?_
  rintro e w' ⟨rfl, rfl⟩
  rw [H1.out]
  go_wp2
  go_ret
  exact ⟨ret_b HX.out.symm, by go_grown⟩
set_option maxHeartbeats 2000000 in
theorem l22Ok_s2 (v : Value) (ps : List (Int × Int)) (st bl : Int) (w : World) (hv : SlP w v ps) (h1 : inB st 1 64 = true) (h2 : inB bl 1 8 = false) :
    Calls Tryz.prog 25 #[.agg #[.int .i64 st, .int .i64 bl, v]] w fun e w' => e = .returned (.bool (brB st bl ps)) ∧ Below w.heap.size w w' := by
  obtain ⟨A, c, rfl, hac, hac', _⟩ := hv.open_
  have HX := Lib.hid (br2 (st := st) (bl := bl) (ps := ps) h2)
  clear hv
  have H1 := Lib.hid h1
  have H2 := Lib.hid h2
  clear h1 h2
  go_enter Tryz.func25, Tryz.ntmps25
  go_wp2_with fail
  refine (l00In_any _ _ _ _).mono ?_
  rintro e w' ⟨rfl, rfl⟩
  rw [H1.out]
  go_wp2_with fail
  refine (l00In_any _ _ _ _).mono ?_
  rintro e w' ⟨rfl, rfl⟩
  rw [H2.out]
  go_wp2
  go_ret
  exact ⟨ret_b HX.out.symm, by go_grown⟩
set_option maxHeartbeats 2000000 in
theorem l22Ok_s3 (v : Value) (ps : List (Int × Int)) (st bl : Int) (w : World) (hv : SlP w v ps) (h1 : inB st 1 64 = true) (h2 : inB bl 1 8 = true) (h3 : ¬ ps.length ≤ 128) :
    Calls Tryz.prog 25 #[.agg #[.int .i64 st, .int .i64 bl, v]] w fun e w' => e = .returned (.bool (brB st bl ps)) ∧ Below w.heap.size w w' := by
  obtain ⟨A, c, rfl, hac, hac', _⟩ := hv.open_
  have HX := Lib.hid (br3 (st := st) (bl := bl) (ps := ps) h3)
  clear hv
  have H1 := Lib.hid h1
  have H2 := Lib.hid h2
  have i3 : (128 : Int) < (ps.length : Int) := by omega
  clear h1 h2 h3
  go_enter Tryz.func25, Tryz.ntmps25
  go_wp2_with fail
  refine (l00In_any _ _ _ _).mono ?_
  rintro e w' ⟨rfl, rfl⟩
  rw [H1.out]
  go_wp2_with fail
  refine (l00In_any _ _ _ _).mono ?_
  rintro e w' ⟨rfl, rfl⟩
  rw [H2.out]
  go_wp2
  go_ret
  exact ⟨ret_b HX.out.symm, by go_grown⟩
set_option maxRecDepth 100000 in
set_option maxHeartbeats 16000000 in
theorem l22Ok_s0 (v : Value) (ps : List (Int × Int)) (st bl : Int) (w : World) (hv : SlP w v ps) (h1 : inB st 1 64 = true) (h2 : inB bl 1 8 = true) (h3 : ps.length ≤ 128) :
    Calls Tryz.prog 25 #[.agg #[.int .i64 st, .int .i64 bl, v]] w fun e w' => e = .returned (.bool (brB st bl ps)) ∧ Below w.heap.size w w' := by
  obtain ⟨A, c, rfl, hac, hac', HA⟩ := hv.open_
  obtain ⟨s1, s2⟩ := inB_iff.1 h1
  obtain ⟨l1, l2⟩ := inB_iff.1 h2
  have HT := Lib.hid (fun k (h : PinsTo st bl ps k) (hk : ps.length ≤ k) => br_t h1 h2 h3 h hk)
  have H1 := Lib.hid h1
  have H2 := Lib.hid h2
  have i0 : (ps.length : Int) ≤ 128 := by omega
  have e1 : IntKind.i64.wrap (st - 1) = st - 1 := IntWalk.i64_in _ (by omega)
  have e2 : IntKind.i64.wrap (bl - 1) = bl - 1 := IntWalk.i64_in _ (by omega)
  have E1 := Lib.hid e1
  have E2 := Lib.hid e2
  clear hv h1 h2 e1 e2
  go_enter Tryz.func25, Tryz.ntmps25
  have HK0 := Lib.hid (bx1 w 26 #[.int .i64 st, .int .i64 bl, .slice A ps.length c])
  go_wp2_with fail
  refine (l00In_any _ _ _ _).mono ?_
  rintro e w' ⟨rfl, rfl⟩
  rw [H1.out]
  go_wp2_with fail
  refine (l00In_any _ _ _ _).mono ?_
  rintro e w' ⟨rfl, rfl⟩
  rw [H2.out]
  go_wp2_with fail
  go_loopw [3] (fun i wr => ∃ k : Nat, k ≤ ps.length ∧ i = .int .i64 k ∧ PinsTo st bl ps k ∧ Blk wr w.heap.size 26 #[.int .i64 st, .int .i64 bl, .slice A ps.length c] ∧ Below w.heap.size w wr) (fun i _ => ps.length - (intOf i).toNat)
  case atStart => exact ⟨0, Nat.zero_le _, rfl, PinsTo.zero _ _ _, HK0.out, by go_grown⟩
  case round =>
    obtain ⟨k, hk, rfl, hup, b0, hB⟩ := hrel
    have q0 := b0.cell 0 rfl
    have q1 := b0.cell 1 rfl
    have q2 := b0.cell 2 rfl
    have z0 := b0.lt
    have P0 := Lib.hid b0
    have HU := Lib.hid hup
    clear b0 hup
    by_cases hlt : k < ps.length
    · obtain ⟨ba, oa, rfl, hba, hca⟩ := HA.out k hlt
      have a0 : wr.cell? ⟨ba, oa + k * 2, none⟩ = _ := (hB.cell (p := ⟨ba, oa + k * 2, none⟩) hba).trans (hca k hlt).1
      have a1 : wr.cell? ⟨ba, oa + k * 2 + 1, none⟩ = _ := (hB.cell (p := ⟨ba, oa + (k * 2 + 1), none⟩) hba).trans (hca k hlt).2
      have zb : ba < wr.heap.size := Nat.lt_of_lt_of_le hba hB.size
      have i1 : (k : Int) < (ps.length : Int) := by omega
      have i2 : (0 : Int) ≤ (k : Int) := by omega
      have i3 : (ps.length : Int) ≤ (c : Int) := by omega
      have zc : ba < wr.heap.size + 1 := by omega
      have zd : w.heap.size < wr.heap.size + 1 := by omega
      have nb : ¬ ba = wr.heap.size := by omega
      have nc : ¬ w.heap.size = wr.heap.size := by omega
      have HCA := Lib.hid (fun j (hj : j < ps.length) => (⟨(hB.cell (p := ⟨ba, oa + j * 2, none⟩) hba).trans (hca j hj).1, (hB.cell (p := ⟨ba, oa + (j * 2 + 1), none⟩) hba).trans (hca j hj).2⟩ : wr.cell? ⟨ba, oa + j * 2, none⟩ = some (.int .i64 (pi ps j).1) ∧ wr.cell? ⟨ba, oa + j * 2 + 1, none⟩ = some (.int .i64 (pi ps j).2)))
      clear hca HA
      cases h4 : inB (pi ps k).1 0 (st - 1) with
      | false =>
        have HX := Lib.hid (br_f (st := st) (bl := bl) hlt (fun e => by rw [e.1] at h4; cases h4))
        have H4 := Lib.hid h4
        clear h4
        have e1 := E1.out
        have e2 := E2.out
        go_wp2_with fail
        refine wp_region_grow (by kernel_rfl) (by kernel_rfl) ?_
        repeat (go_big_quiet_step (((go_at_call 48; first | with_reducible exact grow_same (l00In_r (pi ps k).1 0 (st - 1) _ _ H4.out)))))
        refine wpQuiet_nil ?_
        intro w6 hb6
        have B6 : Below w.heap.size w w6 := Below.trans (by go_grown) (hb6.mono (by simp; omega))
        have D6 : Below wr.heap.size wr w6 := Below.trans (by go_grown) (hb6.mono (by simp))
        have G6 := Lib.hid (P0.out.below D6)
        clear hb6 D6 e1 e2 a0 a1 q0 q1 q2
        go_wp2
        go_ret
        exact ⟨ret_b HX.out.symm, B6⟩
      | true =>
        have H4 := Lib.hid h4
        cases h5 : inB (pi ps k).2 0 (bl - 1) with
        | false =>
          have HX := Lib.hid (br_f (st := st) (bl := bl) hlt (fun e => by rw [e.2.1] at h5; cases h5))
          have H5 := Lib.hid h5
          clear h4 h5
          have e1 := E1.out
          have e2 := E2.out
          go_wp2_with fail
          refine wp_region_grow (by kernel_rfl) (by kernel_rfl) ?_
          repeat (go_big_quiet_step (((go_at_call 48; first | with_reducible exact grow_same (l00In_r (pi ps k).1 0 (st - 1) _ _ H4.out) | with_reducible exact grow_same (l00In_r (pi ps k).2 0 (bl - 1) _ _ H5.out)))))
          refine wpQuiet_nil ?_
          intro w6 hb6
          have B6 : Below w.heap.size w w6 := Below.trans (by go_grown) (hb6.mono (by simp; omega))
          have D6 : Below wr.heap.size wr w6 := Below.trans (by go_grown) (hb6.mono (by simp))
          have G6 := Lib.hid (P0.out.below D6)
          clear hb6 D6 e1 e2 a0 a1 q0 q1 q2
          go_wp2
          go_ret
          exact ⟨ret_b HX.out.symm, B6⟩
        | true =>
          have H5 := Lib.hid h5
          by_cases h0 : 0 < k
          · obtain ⟨d0, d1⟩ := HCA.out (k - 1) (by omega)
            have j1 : (0 : Int) < (k : Int) := by omega
            have j2 : decide ((0 : Int) < (k : Int)) = true := decide_eq_true j1
            have j3 : decide (0 < k) = true := decide_eq_true h0
            have j4 : 0 ≤ (k : Int) - 1 := by omega
            have j5 : (k : Int) - 1 < (ps.length : Int) := by omega
            cases h6 : befP (pi ps (k - 1)) (pi ps k) with
            | false =>
              have HX := Lib.hid (br_f (st := st) (bl := bl) hlt (fun e => by have := e.2.2 h0; rw [h6] at this; cases this))
              have H6 := Lib.hid h6
              clear h4 h5 h6
              have e1 := E1.out
              have e2 := E2.out
              have e3 : IntKind.i64.wrap ((k : Int) - 1) = (k : Int) - 1 := IntWalk.i64_in _ (by omega)
              have e4 : ((k : Int) - 1).toNat = k - 1 := by omega
              go_wp2_with fail
              refine wp_region_grow (by kernel_rfl) (by kernel_rfl) ?_
              repeat (go_big_quiet_step ((first | (go_at_call 48; first | with_reducible exact grow_same (l00In_r (pi ps k).1 0 (st - 1) _ _ H4.out) | with_reducible exact grow_same (l00In_r (pi ps k).2 0 (bl - 1) _ _ H5.out)) | (go_at_call 49; exact grow_of (l22Before_r (pi ps (k - 1)) (pi ps k) _ _ H6.out)))))
              refine wpQuiet_nil ?_
              intro w6 hb6
              have B6 : Below w.heap.size w w6 := Below.trans (by go_grown) (hb6.mono (by simp; omega))
              have D6 : Below wr.heap.size wr w6 := Below.trans (by go_grown) (hb6.mono (by simp))
              have G6 := Lib.hid (P0.out.below D6)
              clear hb6 D6 e3 e4 d0 d1 e1 e2 a0 a1 q0 q1 q2
              go_wp2
              go_ret
              exact ⟨ret_b HX.out.symm, B6⟩
            | true =>
              have HU2 := Lib.hid (HU.out.succ ⟨h4, h5, fun _ => h6⟩)
              have H6 := Lib.hid h6
              clear h4 h5 h6
              have e1 := E1.out
              have e2 := E2.out
              have e3 : IntKind.i64.wrap ((k : Int) - 1) = (k : Int) - 1 := IntWalk.i64_in _ (by omega)
              have e4 : ((k : Int) - 1).toNat = k - 1 := by omega
              go_wp2_with fail
              refine wp_region_grow (by kernel_rfl) (by kernel_rfl) ?_
              repeat (go_big_quiet_step ((first | (go_at_call 48; first | with_reducible exact grow_same (l00In_r (pi ps k).1 0 (st - 1) _ _ H4.out) | with_reducible exact grow_same (l00In_r (pi ps k).2 0 (bl - 1) _ _ H5.out)) | (go_at_call 49; exact grow_of (l22Before_r (pi ps (k - 1)) (pi ps k) _ _ H6.out)))))
              refine wpQuiet_nil ?_
              intro w6 hb6
              have B6 : Below w.heap.size w w6 := Below.trans (by go_grown) (hb6.mono (by simp; omega))
              have D6 : Below wr.heap.size wr w6 := Below.trans (by go_grown) (hb6.mono (by simp))
              have G6 := Lib.hid (P0.out.below D6)
              clear hb6 D6 e3 e4 d0 d1 e1 e2 a0 a1 q0 q1 q2
              go_wp2
              go_roundw
              case rel => exact ⟨k + 1, by omega, by go_num, HU2.out, G6.out, B6⟩
              case measure => simp [intOf]; omega
          · have j1 : (k : Int) ≤ 0 := by omega
            have j2 : decide ((0 : Int) < (k : Int)) = false := decide_eq_false (by omega)
            have j3 : decide (0 < k) = false := decide_eq_false h0
            have HU2 := Lib.hid (HU.out.succ ⟨h4, h5, fun e => absurd e h0⟩)
            clear h4 h5 h0
            have e1 := E1.out
            have e2 := E2.out
            go_wp2_with fail
            refine wp_region_grow (by kernel_rfl) (by kernel_rfl) ?_
            repeat (go_big_quiet_step (((go_at_call 48; first | with_reducible exact grow_same (l00In_r (pi ps k).1 0 (st - 1) _ _ H4.out) | with_reducible exact grow_same (l00In_r (pi ps k).2 0 (bl - 1) _ _ H5.out)))))
            refine wpQuiet_nil ?_
            intro w6 hb6
            have B6 : Below w.heap.size w w6 := Below.trans (by go_grown) (hb6.mono (by simp; omega))
            have D6 : Below wr.heap.size wr w6 := Below.trans (by go_grown) (hb6.mono (by simp))
            have G6 := Lib.hid (P0.out.below D6)
            clear hb6 D6 e1 e2 a0 a1 q0 q1 q2
            go_wp2
            go_roundw
            case rel => exact ⟨k + 1, by omega, by go_num, HU2.out, G6.out, B6⟩
            case measure => simp [intOf]; omega
    · have HX := Lib.hid (HT.out k HU.out (by omega))
      clear HA
      go_wp2
      go_ret
      exact ⟨ret_b HX.out.symm, hB⟩
theorem l22Ok_s (v : Value) (ps : List (Int × Int)) (st bl : Int) (w : World) (hv : SlP w v ps) :
    Calls Tryz.prog 25 #[.agg #[.int .i64 st, .int .i64 bl, v]] w fun e w' => e = .returned (.bool (brB st bl ps)) ∧ Below w.heap.size w w' := by
  cases h1 : inB st 1 64 with
  | false => exact l22Ok_s1 v ps st bl w hv h1
  | true =>
    cases h2 : inB bl 1 8 with
    | false => exact l22Ok_s2 v ps st bl w hv h1 h2
    | true =>
      by_cases h3 : ps.length ≤ 128
      · exact l22Ok_s0 v ps st bl w hv h1 h2 h3
      · exact l22Ok_s3 v ps st bl w hv h1 h2 h3


end Go.Proofs.YtgaohmbgjjhdbaaGreatDoor
