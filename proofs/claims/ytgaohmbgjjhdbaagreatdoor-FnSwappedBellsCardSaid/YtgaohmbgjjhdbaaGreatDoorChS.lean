/- Chimes: whether two barrels are equal, in the program and in the reference. -/
import Derived.Test.YtgaohmbgjjhdbaaGreatDoorPxPin
import Derived.Test.YtgaohmbgjjhdbaaGreatDoorSePin
import Derived.Test.YtgaohmbgjjhdbaaGreatDoorBx
import Derived.Deep.RegionHeld3
namespace Go.Proofs.YtgaohmbgjjhdbaaGreatDoor
open Go.RowKit
attribute [local go_sem ↓] Go.wp_at_zero Go.wp_at_succ
attribute [local go_sem ↓] eql_Pin neq_Pin eqGuard_Pin

def SameP (ps qs : List (Int × Int)) (k : Nat) : Prop := ∀ j, j < k → pi ps j = pi qs j
theorem SameP.zero (ps qs : List (Int × Int)) : SameP ps qs 0 := fun _ h => absurd h (Nat.not_lt_zero _)
theorem SameP.succ {ps qs : List (Int × Int)} {k : Nat} (h : SameP ps qs k) (h1 : (pi ps k).1 = (pi qs k).1) (h2 : (pi ps k).2 = (pi qs k).2) : SameP ps qs (k + 1) := fun j hj => by
  rcases Nat.lt_or_ge j k with h3 | h3
  · exact h j h3
  · have : j = k := by omega
    subst this; exact Prod.ext h1 h2
theorem SameP.eqP {ps qs : List (Int × Int)} {k : Nat} (h : SameP ps qs k) (hl : ps.length = qs.length) (hk : ps.length ≤ k) : Proofs.YtgaohmbgjjhdbaaGreatDoor.eqP ps qs = true := by
  have := ext_pi hl fun j hj => h j (by omega)
  simp [Proofs.YtgaohmbgjjhdbaaGreatDoor.eqP, this]
theorem eqP_len {ps qs : List (Int × Int)} (h : ¬ ps.length = qs.length) : eqP ps qs = false := by
  simp only [eqP, decide_eq_false_iff_not]; rintro rfl; exact h rfl
theorem eqP_at {ps qs : List (Int × Int)} {k : Nat} (h : ¬ ((pi ps k).1 = (pi qs k).1 ∧ (pi ps k).2 = (pi qs k).2)) : eqP ps qs = false := by
  simp only [eqP, decide_eq_false_iff_not]; rintro rfl; exact h ⟨rfl, rfl⟩

set_option maxHeartbeats 1000000 in
theorem EqualP_any (va vb : Value) (ps qs : List (Int × Int)) (w : World) (ha : SlP w va ps) (hb : SlP w vb qs) :
    Calls Tryz.prog 40 #[va, vb] w fun e w' => e = .returned (.bool (eqP ps qs)) ∧ ∃ n, w' = w.drewN n := by
  obtain ⟨A, c, rfl, hac, hac', HA⟩ := ha.open_
  obtain ⟨B, d, rfl, hbd, hbd', HB⟩ := hb.open_
  by_cases hl : ps.length = qs.length
  · have HL := Lib.hid hl
    have h1 : ((ps.length : Int) != (qs.length : Int)) = false := by simp [hl]
    clear hl
    go_enter Tryz.func40, Tryz.ntmps40
    go_wp2
    go_loopw [13] (fun i wr => ∃ k : Nat, k ≤ ps.length ∧ i = .int .i64 k ∧ Hid (SameP ps qs k) ∧ ∃ n, wr = w.drewN n) (fun i _ => ps.length - (intOf i).toNat)
    case atStart => exact ⟨0, Nat.zero_le _, rfl, Lib.hid (SameP.zero _ _), 0, rfl⟩
    case round =>
      obtain ⟨k, hk, rfl, hs, n, rfl⟩ := hrel
      by_cases hlt : k < ps.length
      · obtain ⟨ba, oa, rfl, hba, hca⟩ := HA.out k hlt
        obtain ⟨bb, ob, rfl, hbb, hcb⟩ := HB.out k (by have := HL.out; omega)
        obtain ⟨a0, a1⟩ := hca k hlt
        obtain ⟨b0, b1⟩ := hcb k (by have := HL.out; omega)
        have a1' : w.cell? ⟨ba, oa + k * 2 + 1, none⟩ = _ := a1
        have b1' : w.cell? ⟨bb, ob + k * 2 + 1, none⟩ = _ := b1
        have hlt' : k < qs.length := by have := HL.out; omega
        have i1 : (k : Int) < (ps.length : Int) := by omega
        have i2 : (k : Int) < (qs.length : Int) := by omega
        have i3 : (ps.length : Int) ≤ (c : Int) := by omega
        have i4 : (qs.length : Int) ≤ (d : Int) := by omega
        clear hca hcb HA HB
        by_cases he : (pi ps k).1 = (pi qs k).1 ∧ (pi ps k).2 = (pi qs k).2
        · obtain ⟨he1, he2⟩ := he
          have HE1 := Lib.hid he1
          have HE2 := Lib.hid he2
          have hb1 : ((pi ps k).1 == (pi qs k).1) = true := by simp [he1]
          have hb2 : ((pi ps k).2 == (pi qs k).2) = true := by simp [he2]
          clear he1 he2
          go_wp2
          go_quiet (fail)
          go_wp2
          go_roundw
          case rel => exact ⟨k + 1, by omega, by go_num, Lib.hid (hs.out.succ HE1.out HE2.out), _, rfl⟩
          case measure => simp [intOf]; omega
        · have hbq : (((pi ps k).1 == (pi qs k).1) && ((pi ps k).2 == (pi qs k).2)) = false := by
            rw [Bool.eq_false_iff]; intro h; simp at h; exact he h
          have HE := Lib.hid he
          clear he
          go_wp2
          go_quiet (fail)
          go_wp2
          go_ret
          exact ⟨ret_b (eqP_at HE.out).symm, _, World.drewN_drewN _ _ _⟩
      · go_wp2
        go_ret
        exact ⟨ret_b (hs.out.eqP HL.out (by omega)).symm, n, rfl⟩
  · have h1 : ((ps.length : Int) != (qs.length : Int)) = true := by simp; omega
    go_enter Tryz.func40, Tryz.ntmps40
    go_wp2
    go_ret
    exact ⟨ret_b (eqP_len hl).symm, 0, rfl⟩

def sameB (st bl : Int) (ps : List (Int × Int)) (st' bl' : Int) (qs : List (Int × Int)) : Bool := (st == st') && ((bl == bl') && eqP ps qs)
section
variable {st bl st' bl' : Int} {ps qs : List (Int × Int)}
theorem sameB_1 (h : (st == st') = false) : sameB st bl ps st' bl' qs = false := by simp [sameB, h]
theorem sameB_2 (h : (bl == bl') = false) : sameB st bl ps st' bl' qs = false := by simp [sameB, h]
theorem sameB_3 (h : (st == st') = true) (h2 : (bl == bl') = true) : sameB st bl ps st' bl' qs = eqP ps qs := by simp [sameB, h, h2]
theorem sameB_f (h : eqP ps qs = false) : sameB st bl ps st' bl' qs = false := by simp [sameB, h]
end
set_option maxHeartbeats 2000000 in
theorem SameBarrel_i (va vb : Value) (ps qs : List (Int × Int)) (st bl st' bl' : Int) (w : World) (ha : SlP w va ps) (hb : SlP w vb qs) :
    Calls Tryz.prog 15 #[.agg #[.int .i64 st, .int .i64 bl, va], .agg #[.int .i64 st', .int .i64 bl', vb]] w fun e w' => e = .returned (.bool (sameB st bl ps st' bl' qs)) ∧ Below w.heap.size w w' := by
  cases h1 : (st == st') with
  | false =>
    have HX := Lib.hid (sameB_1 (bl := bl) (bl' := bl') (ps := ps) (qs := qs) h1)
    clear ha hb
    go_enter Tryz.func15, Tryz.ntmps15
    go_wp2_with fail
    go_ret
    exact ⟨ret_b HX.out.symm, by go_grown⟩
  | true =>
    cases h2 : (bl == bl') with
    | false =>
      have HX := Lib.hid (sameB_2 (st := st) (st' := st') (ps := ps) (qs := qs) h2)
      clear ha hb
      go_enter Tryz.func15, Tryz.ntmps15
      go_wp2_with fail
      go_ret
      exact ⟨ret_b HX.out.symm, by go_grown⟩
    | true =>
      have HX := Lib.hid (sameB_3 (ps := ps) (qs := qs) h1 h2)
      have HE := Lib.hid (fun w' (hw : Below w.heap.size w w') => EqualP_any va vb ps qs w' (ha.below hw) (hb.below hw))
      clear ha hb
      go_enter Tryz.func15, Tryz.ntmps15
      go_wp2_with fail
      refine (HE.out _ (by go_grown)).mono ?_
      rintro e w' ⟨rfl, n, rfl⟩
      go_wp2_with fail
      go_ret
      exact ⟨ret_b HX.out.symm, below_drewN (by go_grown) _⟩
set_option maxHeartbeats 4000000 in
theorem SameBarrel_s (va vb : Value) (ps qs : List (Int × Int)) (st bl st' bl' : Int) (w : World) (ha : SlP w va ps) (hb : SlP w vb qs) :
    Calls Tryz.prog 12 #[.agg #[.int .i64 st, .int .i64 bl, va], .agg #[.int .i64 st', .int .i64 bl', vb]] w fun e w' => e = .returned (.bool (sameB st bl ps st' bl' qs)) ∧ Below w.heap.size w w' := by
  obtain ⟨A, c, rfl, hac, hac', HA⟩ := ha.open_
  obtain ⟨B, d, rfl, hbd, hbd', HB⟩ := hb.open_
  clear ha hb
  cases h1 : (st == st') with
  | false =>
    have HX := Lib.hid (sameB_1 (bl := bl) (bl' := bl') (ps := ps) (qs := qs) h1)
    have h1' : (st != st') = true := by rw [bne, h1]; rfl
    clear HA HB
    go_enter Tryz.func12, Tryz.ntmps12
    go_wp2_with fail
    go_ret
    exact ⟨ret_b HX.out.symm, by go_grown⟩
  | true =>
    have h1' : (st != st') = false := by rw [bne, h1]; rfl
    cases h2 : (bl == bl') with
    | false =>
      have HX := Lib.hid (sameB_2 (st := st) (st' := st') (ps := ps) (qs := qs) h2)
      have h2' : (bl != bl') = true := by rw [bne, h2]; rfl
      clear HA HB
      go_enter Tryz.func12, Tryz.ntmps12
      go_wp2_with fail
      go_ret
      exact ⟨ret_b HX.out.symm, by go_grown⟩
    | true =>
      have h2' : (bl != bl') = false := by rw [bne, h2]; rfl
      by_cases hl : ps.length = qs.length
      · have HX := Lib.hid (sameB_3 (ps := ps) (qs := qs) h1 h2)
        have HL := Lib.hid hl
        have h3 : ((ps.length : Int) != (qs.length : Int)) = false := by simp [hl]
        clear hl
        go_enter Tryz.func12, Tryz.ntmps12
        obtain ⟨k0, k1⟩ := bx2 w 26 26 #[.int .i64 st, .int .i64 bl, .slice A ps.length c] #[.int .i64 st', .int .i64 bl', .slice B qs.length d]
        have a0 := k0.cell 0 rfl
        have a1 := k0.cell 1 rfl
        have a2 := k0.cell 2 rfl
        have b0 := k1.cell 0 rfl
        have b1 := k1.cell 1 rfl
        have b2 := k1.cell 2 rfl
        clear k0 k1
        have HK := Lib.hid (bx2 w 26 26 #[.int .i64 st, .int .i64 bl, .slice A ps.length c] #[.int .i64 st', .int .i64 bl', .slice B qs.length d])
        go_wp2_with fail
        go_loopw [5] (fun i wr => ∃ k : Nat, k ≤ ps.length ∧ i = .int .i64 k ∧ Hid (SameP ps qs k) ∧ Blk wr w.heap.size 26 #[.int .i64 st, .int .i64 bl, .slice A ps.length c] ∧ Blk wr (w.heap.size + 1) 26 #[.int .i64 st', .int .i64 bl', .slice B qs.length d] ∧ Below w.heap.size w wr) (fun i _ => ps.length - (intOf i).toNat)
        case atStart => exact ⟨0, Nat.zero_le _, rfl, Lib.hid (SameP.zero _ _), HK.out.1, HK.out.2, by go_grown⟩
        case round =>
          clear a0 a1 a2 b0 b1 b2
          obtain ⟨k, hk, rfl, hs, g0, g1, hB⟩ := hrel
          have q2 := g0.cell 2 rfl
          have r2 := g1.cell 2 rfl
          have z0 := g0.lt
          have z1 := g1.lt
          have HD0 := Lib.hid (fun n => g0.drewN n)
          have HD1 := Lib.hid (fun n => g1.drewN n)
          clear g0 g1
          by_cases hlt : k < ps.length
          · obtain ⟨ba, oa, rfl, hba, hca⟩ := HA.out k hlt
            obtain ⟨bb, ob, rfl, hbb, hcb⟩ := HB.out k (by have := HL.out; omega)
            obtain ⟨a0, a1⟩ := hca k hlt
            obtain ⟨b0, b1⟩ := hcb k (by have := HL.out; omega)
            have a0' : wr.cell? ⟨ba, oa + k * 2, none⟩ = _ := (hB.cell (p := ⟨ba, oa + k * 2, none⟩) hba).trans a0
            have b0' : wr.cell? ⟨bb, ob + k * 2, none⟩ = _ := (hB.cell (p := ⟨bb, ob + k * 2, none⟩) hbb).trans b0
            have a1' : wr.cell? ⟨ba, oa + k * 2 + 1, none⟩ = _ := (hB.cell (p := ⟨ba, oa + (k * 2 + 1), none⟩) hba).trans a1
            have b1' : wr.cell? ⟨bb, ob + k * 2 + 1, none⟩ = _ := (hB.cell (p := ⟨bb, ob + (k * 2 + 1), none⟩) hbb).trans b1
            have hlt' : k < qs.length := by have := HL.out; omega
            have i1 : (k : Int) < (ps.length : Int) := by omega
            have i2 : (k : Int) < (qs.length : Int) := by omega
            have i3 : (ps.length : Int) ≤ (c : Int) := by omega
            have i4 : (qs.length : Int) ≤ (d : Int) := by omega
            clear hca hcb HA HB a0 a1 b0 b1
            by_cases he : (pi ps k).1 = (pi qs k).1 ∧ (pi ps k).2 = (pi qs k).2
            · obtain ⟨he1, he2⟩ := he
              have HE1 := Lib.hid he1
              have HE2 := Lib.hid he2
              have hb1 : ((pi ps k).1 == (pi qs k).1) = true := by simp [he1]
              have hb2 : ((pi ps k).2 == (pi qs k).2) = true := by simp [he2]
              clear he1 he2
              go_wp2
              go_quiet (fail)
              go_wp2
              go_roundw
              case rel => exact ⟨k + 1, by omega, by go_num, Lib.hid (hs.out.succ HE1.out HE2.out), HD0.out _, HD1.out _, below_drewN hB _⟩
              case measure => simp [intOf]; omega
            · have hbq : (((pi ps k).1 == (pi qs k).1) && ((pi ps k).2 == (pi qs k).2)) = false := by
                rw [Bool.eq_false_iff]; intro h; simp at h; exact he h
              have HE := Lib.hid he
              clear he
              go_wp2
              go_quiet (fail)
              go_wp2
              go_ret
              exact ⟨ret_b (sameB_f (eqP_at HE.out)).symm, below_drewN hB _⟩
          · clear HA HB
            go_wp2
            go_ret
            exact ⟨ret_b (by rw [HX.out, hs.out.eqP HL.out (by omega)]), hB⟩
      · have h3 : ((ps.length : Int) != (qs.length : Int)) = true := by simp; omega
        have HX := Lib.hid (sameB_f (st := st) (bl := bl) (st' := st') (bl' := bl') (eqP_len hl))
        clear HA HB hl
        go_enter Tryz.func12, Tryz.ntmps12
        go_wp2_with fail
        go_ret
        exact ⟨ret_b HX.out.symm, by go_grown⟩
theorem SameBarrel_both (st bl : Int) (ps : List (Int × Int)) (st' bl' : Int) (qs : List (Int × Int)) : ∃ rb : Bool,
    (∀ va vb w, SlP w va ps → SlP w vb qs → Calls Tryz.prog 15 #[.agg #[.int .i64 st, .int .i64 bl, va], .agg #[.int .i64 st', .int .i64 bl', vb]] w fun e w' => e = .returned (.bool (rb)) ∧ Below w.heap.size w w') ∧
    (∀ va vb w, SlP w va ps → SlP w vb qs → Calls Tryz.prog 12 #[.agg #[.int .i64 st, .int .i64 bl, va], .agg #[.int .i64 st', .int .i64 bl', vb]] w fun e w' => e = .returned (.bool (rb)) ∧ Below w.heap.size w w') :=
  ⟨_, fun va vb w ha hb => SameBarrel_i va vb ps qs st bl st' bl' w ha hb, fun va vb w ha hb => SameBarrel_s va vb ps qs st bl st' bl' w ha hb⟩
end Go.Proofs.YtgaohmbgjjhdbaaGreatDoor
