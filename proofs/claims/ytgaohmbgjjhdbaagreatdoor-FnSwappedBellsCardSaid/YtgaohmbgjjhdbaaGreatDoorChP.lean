/- Chimes: the order of pins, in the program and in the reference. -/
import Derived.Test.YtgaohmbgjjhdbaaGreatDoorPxPin
import Derived.Deep.RegionHeld3
namespace Go.Proofs.YtgaohmbgjjhdbaaGreatDoor
open Go.RowKit
attribute [local go_sem ↓] Go.wp_at_zero Go.wp_at_succ

def cmpI (a b : Int) : Int := if a < b then -1 else if b < a then 1 else 0
theorem cmpI_in (a b : Int) : -1 ≤ cmpI a b ∧ cmpI a b ≤ 1 := by unfold cmpI; split <;> (try split) <;> omega
/-- How two pins stand to each other: by steps, then by bells. -/
def cmpP (p q : Int × Int) : Int := if cmpI p.1 q.1 = 0 then cmpI p.2 q.2 else cmpI p.1 q.1
theorem cmpP_in (p q : Int × Int) : -1 ≤ cmpP p q ∧ cmpP p q ≤ 1 := by
  have := cmpI_in p.1 q.1
  have := cmpI_in p.2 q.2
  unfold cmpP; split <;> omega
def befP (p q : Int × Int) : Bool := decide (p.1 < q.1) || (decide (p.1 = q.1) && decide (p.2 < q.2))
theorem cmpP_bef (p q : Int × Int) : decide (0 ≤ cmpP p q) = !(befP p q) := by
  unfold cmpP cmpI befP
  by_cases h1 : p.1 < q.1
  · simp [h1]
  · by_cases h2 : q.1 < p.1
    · have : ¬ p.1 = q.1 := by omega
      simp [h1, h2, this]
    · have : p.1 = q.1 := by omega
      by_cases h3 : p.2 < q.2
      · simp [this, h3]
      · by_cases h4 : q.2 < p.2 <;> simp [this, h3, h4]

set_option maxHeartbeats 1000000 in
theorem Compare_any (a b : Int) (w : World) :
    Calls Tryz.prog 63 #[.int .i64 a, .int .i64 b] w fun e w' => e = .returned (.int .i64 (cmpI a b)) ∧ w = w' := by
  by_cases h1 : a < b
  · have HC : Hid (cmpI a b = -1) := if_pos h1
    go_enter Tryz.func63, Tryz.ntmps63
    go_wp2
    go_ret
    exact ⟨ret_i HC.out.symm, rfl⟩
  · by_cases h2 : b < a
    · have HC : Hid (cmpI a b = 1) := by show _ = _; unfold cmpI; rw [if_neg h1, if_pos h2]
      go_enter Tryz.func63, Tryz.ntmps63
      go_wp2
      go_ret
      exact ⟨ret_i HC.out.symm, rfl⟩
    · have HC : Hid (cmpI a b = 0) := by show _ = _; unfold cmpI; rw [if_neg h1, if_neg h2]
      go_enter Tryz.func63, Tryz.ntmps63
      go_wp2
      go_ret
      exact ⟨ret_i HC.out.symm, rfl⟩

/-- The first that is not 0. -/
def orI (a b : Int) : Int := if a = 0 then b else a
set_option maxHeartbeats 1000000 in
theorem Or2_any (g : Nat) (a b : Int) (w : World) (h0 : w.cell? ⟨g, 0, none⟩ = some (.int .i64 a)) (h1 : w.cell? ⟨g, 1, none⟩ = some (.int .i64 b)) :
    Calls Tryz.prog 62 #[.slice (some ⟨g, 0, none⟩) 2 2] w fun e w' => e = .returned (.int .i64 (orI a b)) ∧ w = w' := by
  by_cases ha : a = 0
  · have e0 : (a != 0) = false := by simp [ha]
    have HR : Hid (orI a b = b) := if_pos ha
    clear ha
    by_cases hb : b = 0
    · have e1 : (b != 0) = false := by simp [hb]
      have HB := Lib.hid hb
      clear hb
      go_enter Tryz.func62, Tryz.ntmps62
      go_wp2_with fail
      go_rounds 3
      go_ret
      exact ⟨ret_i (by rw [HR.out, HB.out]), rfl⟩
    · have e1 : (b != 0) = true := by simpa using hb
      clear hb
      go_enter Tryz.func62, Tryz.ntmps62
      go_wp2_with fail
      go_rounds 3
      go_ret
      exact ⟨ret_i HR.out.symm, rfl⟩
  · have e0 : (a != 0) = true := by simpa using ha
    have HR : Hid (orI a b = a) := if_neg ha
    clear ha
    go_enter Tryz.func62, Tryz.ntmps62
    go_wp2_with fail
    go_rounds 3
    go_ret
    exact ⟨ret_i HR.out.symm, rfl⟩

theorem orI_cmp (p q : Int × Int) : orI (cmpI p.1 q.1) (cmpI p.2 q.2) = cmpP p q := rfl
set_option maxHeartbeats 4000000 in
theorem comparePins_any (p q : Int × Int) (w : World) :
    Calls Tryz.prog 44 #[.agg #[.int .i64 p.1, .int .i64 p.2], .agg #[.int .i64 q.1, .int .i64 q.2]] w fun e w' => e = .returned (.int .i64 (cmpP p q)) ∧ Below w.heap.size w w' := by
  have HO := Lib.hid (orI_cmp p q)
  obtain ⟨a, b⟩ := p
  obtain ⟨c, d⟩ := q
  simp only at HO
  go_enter Tryz.func44, Tryz.ntmps44
  obtain ⟨k0, k1⟩ := bx2 w 49 49 #[.int .i64 a, .int .i64 b] #[.int .i64 c, .int .i64 d]
  have HSr := Lib.hid (fun (w' : World) (hw : Below (w.heap.size + 1 + 1) ((w.alloc (.cells #[.int .i64 a, .int .i64 b] 49)).alloc (.cells #[.int .i64 c, .int .i64 d] 49)) w') => (⟨(k0.belowB hw (by omega)).cell 0 rfl, (k0.belowB hw (by omega)).cell 1 rfl, (k1.belowB hw (by omega)).cell 0 rfl, (k1.belowB hw (by omega)).cell 1 rfl⟩ : w'.cell? ⟨w.heap.size, 0, none⟩ = some (.int .i64 a) ∧ w'.cell? ⟨w.heap.size, 1, none⟩ = some (.int .i64 b) ∧ w'.cell? ⟨w.heap.size + 1, 0, none⟩ = some (.int .i64 c) ∧ w'.cell? ⟨w.heap.size + 1, 1, none⟩ = some (.int .i64 d)))
  clear k0 k1
  go_wp2_with fail
  go_region_held3 (fun w' => w'.cell? ⟨w.heap.size, 0, none⟩ = some (.int .i64 a) ∧ w'.cell? ⟨w.heap.size, 1, none⟩ = some (.int .i64 b) ∧ w'.cell? ⟨w.heap.size + 1, 0, none⟩ = some (.int .i64 c) ∧ w'.cell? ⟨w.heap.size + 1, 1, none⟩ = some (.int .i64 d)) (first | assumption | (refine HSr.out _ ?_; go_grown; done) | go_keep)
    (first
      | (go_at_call 63; refine (Compare_any _ _ _).mono ?_; rintro e w' ⟨rfl, rfl⟩)
      | (go_at_call 62; refine (Or2_any _ (cmpI a c) (cmpI b d) _ (by simp [go_sem]) (by simp [go_sem])).mono ?_; rintro e w' ⟨rfl, rfl⟩))
  all_goals go_wp2
  all_goals (go_ret; exact ⟨ret_i HO.out, by go_grown⟩)

set_option maxHeartbeats 4000000 in
theorem l22Before_any (p q : Int × Int) (w : World) :
    Calls Tryz.prog 49 #[.agg #[.int .i64 p.1, .int .i64 p.2], .agg #[.int .i64 q.1, .int .i64 q.2]] w fun e w' => e = .returned (.bool (befP p q)) ∧ Below w.heap.size w w' := by
  obtain ⟨a, b⟩ := p
  obtain ⟨c, d⟩ := q
  by_cases h1 : a < c
  · have HB : Hid (befP (a, b) (c, d) = true) := by show _ = _; simp [befP, h1]
    go_enter Tryz.func49, Tryz.ntmps49
    go_wp2
    go_ret
    exact ⟨ret_b HB.out.symm, by go_grown⟩
  · by_cases h2 : a = c
    · have HB : Hid (befP (a, b) (c, d) = decide (b < d)) := by show _ = _; simp [befP, h2]
      have e2 : (a == c) = true := by simp [h2]
      clear h2
      go_enter Tryz.func49, Tryz.ntmps49
      go_wp2
      go_ret
      exact ⟨ret_b HB.out.symm, by go_grown⟩
    · have HB : Hid (befP (a, b) (c, d) = false) := by show _ = _; simp [befP, h1, h2]
      have e2 : (a == c) = false := by simpa using h2
      clear h2
      go_enter Tryz.func49, Tryz.ntmps49
      go_wp2
      go_ret
      exact ⟨ret_b HB.out.symm, by go_grown⟩
end Go.Proofs.YtgaohmbgjjhdbaaGreatDoor
