/- Hands: f6states: whether two lists of states are equal. (Written by convert.py out of ChS and F6p.) -/
import Derived.Test.YtfddibdncniekaaDoorPxHandState
import Derived.Test.YtfddibdncniekaaDoorSeHandState
import Derived.Test.YtfddibdncniekaaDoorBx
import Derived.Deep.RegionHeld3
namespace Go.Proofs.YtfddibdncniekaaDoor
open Go.RowKit
attribute [local go_sem ↓] Go.wp_at_zero Go.wp_at_succ
attribute [local go_sem ↓] eql_HandState neq_HandState eqGuard_HandState

def SameP (ps qs : List (Int × Int)) (k : Nat) : Prop := ∀ j, j < k → pi ps j = pi qs j
theorem SameP.zero (ps qs : List (Int × Int)) : SameP ps qs 0 := fun _ h => absurd h (Nat.not_lt_zero _)
theorem SameP.succ {ps qs : List (Int × Int)} {k : Nat} (h : SameP ps qs k) (h1 : (pi ps k).1 = (pi qs k).1) (h2 : (pi ps k).2 = (pi qs k).2) : SameP ps qs (k + 1) := fun j hj => by
  rcases Nat.lt_or_ge j k with h3 | h3
  · exact h j h3
  · have : j = k := by omega
    subst this; exact Prod.ext h1 h2
theorem SameP.eqP {ps qs : List (Int × Int)} {k : Nat} (h : SameP ps qs k) (hl : ps.length = qs.length) (hk : ps.length ≤ k) : Proofs.YtfddibdncniekaaDoor.eqP ps qs = true := by
  have := ext_pi hl fun j hj => h j (by omega)
  simp [Proofs.YtfddibdncniekaaDoor.eqP, this]
theorem eqP_len {ps qs : List (Int × Int)} (h : ¬ ps.length = qs.length) : eqP ps qs = false := by
  simp only [eqP, decide_eq_false_iff_not]; rintro rfl; exact h rfl
theorem eqP_at {ps qs : List (Int × Int)} {k : Nat} (h : ¬ ((pi ps k).1 = (pi qs k).1 ∧ (pi ps k).2 = (pi qs k).2)) : eqP ps qs = false := by
  simp only [eqP, decide_eq_false_iff_not]; rintro rfl; exact h ⟨rfl, rfl⟩

set_option maxHeartbeats 1000000 in
theorem f6states_any (va vb : Value) (ps qs : List (Int × Int)) (w : World) (ha : SlP w va ps) (hb : SlP w vb qs) :
    Calls Tryd.prog 41 #[va, vb] w fun e w' => e = .returned (.bool (eqP ps qs)) ∧ ∃ n, w' = w.drewN n := by
  obtain ⟨A, c, rfl, hac, hac', HA⟩ := ha.open_
  obtain ⟨B, d, rfl, hbd, hbd', HB⟩ := hb.open_
  by_cases hl : ps.length = qs.length
  · have HL := Lib.hid hl
    have h1 : ((ps.length : Int) != (qs.length : Int)) = false := by simp [hl]
    clear hl
    go_enter Tryd.func41, Tryd.ntmps41
    go_wp2
    go_loopw [5] (fun i wr => ∃ k : Nat, k ≤ ps.length ∧ i = .int .i64 k ∧ Hid (SameP ps qs k) ∧ ∃ n, wr = w.drewN n) (fun i _ => ps.length - (intOf i).toNat)
    case atStart => exact ⟨0, Nat.zero_le _, rfl, Lib.hid (SameP.zero _ _), 0, rfl⟩
    case round =>
      obtain ⟨k, hk, rfl, hs, n, rfl⟩ := hrel
      by_cases hlt : k < ps.length
      · obtain ⟨ba, oa, rfl, hba, hca⟩ := HA.out k hlt
        obtain ⟨bb, ob, rfl, hbb, hcb⟩ := HB.out k (by have := HL.out; omega)
        obtain ⟨a0, a1⟩ := hca k hlt
        obtain ⟨b0, b1⟩ := hcb k (by have := HL.out; omega)
        have a1' : w.cell? ⟨ba, oa + k * 2 + 1, none⟩ = _ := a1
        have b1' : w.cell? ⟨bb, ob + k * 2 + 1, none⟩ = _ := b1
        have hlt' : k < qs.length := by have := HL.out; omega
        have i1 : (k : Int) < (ps.length : Int) := by omega
        have i2 : (k : Int) < (qs.length : Int) := by omega
        have i3 : (ps.length : Int) ≤ (c : Int) := by omega
        have i4 : (qs.length : Int) ≤ (d : Int) := by omega
        clear hca hcb HA HB
        by_cases he : (pi ps k).1 = (pi qs k).1 ∧ (pi ps k).2 = (pi qs k).2
        · obtain ⟨he1, he2⟩ := he
          have HE1 := Lib.hid he1
          have HE2 := Lib.hid he2
          have hb1 : ((pi ps k).1 == (pi qs k).1) = true := by simp [he1]
          have hb2 : ((pi ps k).2 == (pi qs k).2) = true := by simp [he2]
          clear he1 he2
          go_wp2
          go_quiet (fail)
          go_wp2
          go_roundw
          case rel => exact ⟨k + 1, by omega, by go_num, Lib.hid (hs.out.succ HE1.out HE2.out), _, rfl⟩
          case measure => simp [intOf]; omega
        · have hbq : (((pi ps k).1 == (pi qs k).1) && ((pi ps k).2 == (pi qs k).2)) = false := by
            rw [Bool.eq_false_iff]; intro h; simp at h; exact he h
          have HE := Lib.hid he
          clear he
          go_wp2
          go_quiet (fail)
          go_wp2
          go_ret
          exact ⟨ret_b (eqP_at HE.out).symm, _, World.drewN_drewN _ _ _⟩
      · go_wp2
        go_ret
        exact ⟨ret_b (hs.out.eqP HL.out (by omega)).symm, n, rfl⟩
  · have h1 : ((ps.length : Int) != (qs.length : Int)) = true := by simp; omega
    go_enter Tryd.func41, Tryd.ntmps41
    go_wp2
    go_ret
    exact ⟨ret_b (eqP_len hl).symm, 0, rfl⟩
theorem f6states_b (va vb : Value) (ps : List (Int × Int)) (w : World) (ha : SlP w va ps) (hb : SlP w vb ps) :
    Calls Tryd.prog 41 #[va, vb] w fun e w' => e = .returned (.bool true) ∧ Below w.heap.size w w' := by
  have h := f6states_any va vb ps ps w ha hb
  rw [eqP_self] at h
  exact h.mono fun e w' ⟨he, n, hw⟩ => ⟨he, by rw [hw]; exact below_drewN (Below.refl _ _) n⟩
end Go.Proofs.YtfddibdncniekaaDoor
