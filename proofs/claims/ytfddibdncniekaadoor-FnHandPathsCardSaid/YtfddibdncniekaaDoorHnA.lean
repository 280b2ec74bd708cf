/- The setting of hands: what an action does, in the program and in the reference. -/
import Derived.Test.YtfddibdncniekaaDoorHnV
import Derived.Test.YtfddibdncniekaaDoorFl
namespace Go.Proofs.YtfddibdncniekaaDoor
open Go.RowKit
attribute [local go_sem ↓] Go.wp_at_zero Go.wp_at_succ

theorem gap_self {gs : List Int} {q : Int} (h0 : 0 ≤ q) (h1 : q < (gs.length : Int)) : gapM gs q = ix gs q.toNat := by rw [gapM, Int.emod_eq_of_lt h0 h1]
/-- The notch behind q. -/
def nxQ (gs : List Int) (q : Int) : Int := (q + 1) % (gs.length : Int)
theorem nxQ_in {gs : List Int} (h : 1 ≤ gs.length) (q : Int) : 0 ≤ nxQ gs q ∧ nxQ gs q < gs.length := ⟨(gap_ix h (q + 1)).1, (gap_ix h (q + 1)).2.1⟩
def inH (h : Int) : Int := (h + 1) % 12
theorem inH_in (h : Int) : 0 ≤ inH h ∧ inH h ≤ 11 := by unfold inH; omega
def deH (h : Int) : Int := (h - 1) % 12
theorem deH_in (h : Int) : 0 ≤ deH h ∧ deH h ≤ 11 := by unfold deH; omega
theorem hs_in {gs : List Int} {h q : Int} (h1 : 1 ≤ gs.length) (hh : 0 ≤ h ∧ h ≤ 11) : hsB gs h (nxQ gs q) = true := by
  have := nxQ_in h1 q
  exact hsB_iff.2 ⟨hh, this.1, by omega⟩

set_option maxHeartbeats 4000000 in
theorem act_f (v : Value) (gs : List Int) (h q : Int) (w : World) (hv : Sl w v gs) (h1 : 1 ≤ gs.length) (hs : hsB gs h q = true) :
    Calls Tryd.prog 57 #[.agg #[v], .agg #[.int .i64 h, .int .i64 q], .int .u8 102] w fun e w' => e = .returned (.tuple #[.agg #[.int .i64 (inH h), .int .i64 (nxQ gs q)], .int .i64 (gapM gs q)]) ∧ Below w.heap.size w w' := by
  obtain ⟨⟨g1, g2⟩, g3, g4⟩ := hsB_iff.1 hs
  obtain ⟨A, c, rfl, hac, hac', HA⟩ := hv.open_
  obtain ⟨ba, oa, rfl, hba, hca⟩ := HA.out q.toNat (by omega)
  have HC := Lib.hid (hca q.toNat (by omega))
  have ca : w.cell? ⟨ba, oa + q.toNat, none⟩ = some (.int .i64 (gapM gs q)) := by rw [gap_self g3 (by omega)]; exact HC.out
  have g5 : q < (gs.length : Int) := by omega
  have g6 : (1 : Int) ≤ (gs.length : Int) := by omega
  have g7 : (gs.length : Int) ≤ (c : Int) := by omega
  have n1 : ¬ gs = [] := fun e => by rw [e] at h1; simp at h1
  have n2 : ((gs.length : Int) == 0) = false := by simp [n1]
  have n3 : ¬ (gs.length : Int) = 0 := by omega
  obtain ⟨x1, x2⟩ := nxQ_in h1 q
  obtain ⟨y1, y2⟩ := inH_in h
  obtain ⟨z1, z2⟩ := deH_in h
  have e1 : (q + 1) % (gs.length : Int) = nxQ gs q := rfl
  have e2 : (h + 1) % 12 = inH h := rfl
  have e3 : (h - 1) % 12 = deH h := rfl
  have b1 : ba < w.heap.size + 1 := by omega
  have b2 : ba < w.heap.size + 1 + 1 := by omega
  have b3 : ¬ ba = w.heap.size := by omega
  have b4 : ¬ ba = w.heap.size + 1 := by omega
  have b5 : ¬ ba = w.heap.size + 1 + 1 := by omega
  clear hv hs HA hca
  go_enter Tryd.func57, Tryd.ntmps57
  go_wp2_with fail
  all_goals (try simp only [Exit.inBlock, Exit.then])
  all_goals (refine bodyPost_ret (v := .tuple #[.agg #[.int .i64 (inH h), .int .i64 (nxQ gs q)], .int .i64 (gapM gs q)]) ?_ rfl ?_)
  all_goals first
    | exact ⟨rfl, by go_grown⟩
    | simp [results, Tryd.results57, go_sem]

set_option maxHeartbeats 4000000 in
theorem l23Step_f (v : Value) (gs : List Int) (h q : Int) (w : World) (hv : Sl w v gs) (h1 : 1 ≤ gs.length) (hs : hsB gs h q = true) :
    Calls Tryd.prog 54 #[.agg #[v], .agg #[.int .i64 h, .int .i64 q], .int .u8 102] w fun e w' => e = .returned (.tuple #[.agg #[.int .i64 (inH h), .int .i64 (nxQ gs q)], .int .i64 (gapM gs q)]) ∧ Below w.heap.size w w' := by
  obtain ⟨⟨g1, g2⟩, g3, g4⟩ := hsB_iff.1 hs
  obtain ⟨A, c, rfl, hac, hac', HA⟩ := hv.open_
  obtain ⟨ba, oa, rfl, hba, hca⟩ := HA.out q.toNat (by omega)
  have HC := Lib.hid (hca q.toNat (by omega))
  have ca : w.cell? ⟨ba, oa + q.toNat, none⟩ = some (.int .i64 (gapM gs q)) := by rw [gap_self g3 (by omega)]; exact HC.out
  have g5 : q < (gs.length : Int) := by omega
  have g6 : (1 : Int) ≤ (gs.length : Int) := by omega
  have g7 : (gs.length : Int) ≤ (c : Int) := by omega
  have n1 : ¬ gs = [] := fun e => by rw [e] at h1; simp at h1
  have n2 : ((gs.length : Int) == 0) = false := by simp [n1]
  have n3 : ¬ (gs.length : Int) = 0 := by omega
  obtain ⟨x1, x2⟩ := nxQ_in h1 q
  obtain ⟨y1, y2⟩ := inH_in h
  obtain ⟨z1, z2⟩ := deH_in h
  have e1 : (q + 1) % (gs.length : Int) = nxQ gs q := rfl
  have e2 : (h + 1) % 12 = inH h := rfl
  have e3 : (h - 1) % 12 = deH h := rfl
  have e4 : (h + 12 - 1) % 12 = deH h := by unfold deH; omega
  have w1 : IntKind.i64.wrap (h + 1) = h + 1 := IntWalk.i64_in _ (by omega)
  have w2 : (h + 1).tmod 12 = inH h := IntWalk.rem_in _ _ (by omega)
  have w3 : IntKind.i64.wrap (inH h) = inH h := IntWalk.i64_in _ (by omega)
  have b1 : ba < w.heap.size + 1 := by omega
  have b2 : ba < w.heap.size + 1 + 1 := by omega
  have b3 : ¬ ba = w.heap.size := by omega
  have b4 : ¬ ba = w.heap.size + 1 := by omega
  have b5 : ¬ ba = w.heap.size + 1 + 1 := by omega
  clear hv hs HA hca
  go_enter Tryd.func54, Tryd.ntmps54
  obtain ⟨k0, k1⟩ := bx2 w 31 28 #[.slice (some ⟨ba, oa, none⟩) gs.length c] #[.int .i64 h, .int .i64 q]
  have cw : ((w.alloc (.cells #[.slice (some ⟨ba, oa, none⟩) gs.length c] 31)).alloc (.cells #[.int .i64 h, .int .i64 q] 28)).cell? ⟨ba, oa + q.toNat, none⟩ = some (.int .i64 (gapM gs q)) := (Below.cell (B := w.heap.size) (p := ⟨ba, oa + q.toNat, none⟩) (by go_grown) hba).trans ca
  have HSr := Lib.hid (fun (w' : World) (hw : Below (w.heap.size + 1 + 1) ((w.alloc (.cells #[.slice (some ⟨ba, oa, none⟩) gs.length c] 31)).alloc (.cells #[.int .i64 h, .int .i64 q] 28)) w') => (⟨(k0.belowB hw (by omega)).cell 0 rfl, (k1.belowB hw (by omega)).cell 0 rfl, (k1.belowB hw (by omega)).cell 1 rfl, (World.cell?_of_block (a := ⟨ba, oa + q.toNat, none⟩) (hw.block ba (by omega))).trans cw⟩ : w'.cell? ⟨w.heap.size, 0, none⟩ = some (.slice (some ⟨ba, oa, none⟩) gs.length c) ∧ w'.cell? ⟨w.heap.size + 1, 0, none⟩ = some (.int .i64 h) ∧ w'.cell? ⟨w.heap.size + 1, 1, none⟩ = some (.int .i64 q) ∧ w'.cell? ⟨ba, oa + q.toNat, none⟩ = some (.int .i64 (gapM gs q))))
  clear k0 k1 cw
  go_wp2_with fail
  go_region_held3 (fun w' => w'.cell? ⟨w.heap.size, 0, none⟩ = some (.slice (some ⟨ba, oa, none⟩) gs.length c) ∧ w'.cell? ⟨w.heap.size + 1, 0, none⟩ = some (.int .i64 h) ∧ w'.cell? ⟨w.heap.size + 1, 1, none⟩ = some (.int .i64 q) ∧ w'.cell? ⟨ba, oa + q.toNat, none⟩ = some (.int .i64 (gapM gs q))) (first | assumption | (refine HSr.out _ ?_; go_grown; done) | ((try dsimp only); (repeat' apply And.intro) <;> (first | assumption | (simp [go_sem, *]; done))) | go_keep) (fail)
  all_goals go_wp2
  all_goals (try simp only [Exit.inBlock, Exit.then])
  all_goals (refine bodyPost_ret (v := .tuple #[.agg #[.int .i64 (inH h), .int .i64 (nxQ gs q)], .int .i64 (gapM gs q)]) ?_ rfl ?_)
  all_goals first
    | exact ⟨rfl, by go_grown⟩
    | simp [results, Tryd.results54, go_sem]

set_option maxHeartbeats 4000000 in
theorem act_l (v : Value) (gs : List Int) (h q : Int) (w : World) (hv : Sl w v gs) (h1 : 1 ≤ gs.length) (hs : hsB gs h q = true) :
    Calls Tryd.prog 57 #[.agg #[v], .agg #[.int .i64 h, .int .i64 q], .int .u8 108] w fun e w' => e = .returned (.tuple #[.agg #[.int .i64 (h), .int .i64 (nxQ gs q)], .int .i64 (gapM gs q)]) ∧ Below w.heap.size w w' := by
  obtain ⟨⟨g1, g2⟩, g3, g4⟩ := hsB_iff.1 hs
  obtain ⟨A, c, rfl, hac, hac', HA⟩ := hv.open_
  obtain ⟨ba, oa, rfl, hba, hca⟩ := HA.out q.toNat (by omega)
  have HC := Lib.hid (hca q.toNat (by omega))
  have ca : w.cell? ⟨ba, oa + q.toNat, none⟩ = some (.int .i64 (gapM gs q)) := by rw [gap_self g3 (by omega)]; exact HC.out
  have g5 : q < (gs.length : Int) := by omega
  have g6 : (1 : Int) ≤ (gs.length : Int) := by omega
  have g7 : (gs.length : Int) ≤ (c : Int) := by omega
  have n1 : ¬ gs = [] := fun e => by rw [e] at h1; simp at h1
  have n2 : ((gs.length : Int) == 0) = false := by simp [n1]
  have n3 : ¬ (gs.length : Int) = 0 := by omega
  obtain ⟨x1, x2⟩ := nxQ_in h1 q
  obtain ⟨y1, y2⟩ := inH_in h
  obtain ⟨z1, z2⟩ := deH_in h
  have e1 : (q + 1) % (gs.length : Int) = nxQ gs q := rfl
  have e2 : (h + 1) % 12 = inH h := rfl
  have e3 : (h - 1) % 12 = deH h := rfl
  have b1 : ba < w.heap.size + 1 := by omega
  have b2 : ba < w.heap.size + 1 + 1 := by omega
  have b3 : ¬ ba = w.heap.size := by omega
  have b4 : ¬ ba = w.heap.size + 1 := by omega
  have b5 : ¬ ba = w.heap.size + 1 + 1 := by omega
  clear hv hs HA hca
  go_enter Tryd.func57, Tryd.ntmps57
  go_wp2_with fail
  all_goals (try simp only [Exit.inBlock, Exit.then])
  all_goals (refine bodyPost_ret (v := .tuple #[.agg #[.int .i64 (h), .int .i64 (nxQ gs q)], .int .i64 (gapM gs q)]) ?_ rfl ?_)
  all_goals first
    | exact ⟨rfl, by go_grown⟩
    | simp [results, Tryd.results57, go_sem]

set_option maxHeartbeats 4000000 in
theorem l23Step_l (v : Value) (gs : List Int) (h q : Int) (w : World) (hv : Sl w v gs) (h1 : 1 ≤ gs.length) (hs : hsB gs h q = true) :
    Calls Tryd.prog 54 #[.agg #[v], .agg #[.int .i64 h, .int .i64 q], .int .u8 108] w fun e w' => e = .returned (.tuple #[.agg #[.int .i64 (h), .int .i64 (nxQ gs q)], .int .i64 (gapM gs q)]) ∧ Below w.heap.size w w' := by
  obtain ⟨⟨g1, g2⟩, g3, g4⟩ := hsB_iff.1 hs
  obtain ⟨A, c, rfl, hac, hac', HA⟩ := hv.open_
  obtain ⟨ba, oa, rfl, hba, hca⟩ := HA.out q.toNat (by omega)
  have HC := Lib.hid (hca q.toNat (by omega))
  have ca : w.cell? ⟨ba, oa + q.toNat, none⟩ = some (.int .i64 (gapM gs q)) := by rw [gap_self g3 (by omega)]; exact HC.out
  have g5 : q < (gs.length : Int) := by omega
  have g6 : (1 : Int) ≤ (gs.length : Int) := by omega
  have g7 : (gs.length : Int) ≤ (c : Int) := by omega
  have n1 : ¬ gs = [] := fun e => by rw [e] at h1; simp at h1
  have n2 : ((gs.length : Int) == 0) = false := by simp [n1]
  have n3 : ¬ (gs.length : Int) = 0 := by omega
  obtain ⟨x1, x2⟩ := nxQ_in h1 q
  obtain ⟨y1, y2⟩ := inH_in h
  obtain ⟨z1, z2⟩ := deH_in h
  have e1 : (q + 1) % (gs.length : Int) = nxQ gs q := rfl
  have e2 : (h + 1) % 12 = inH h := rfl
  have e3 : (h - 1) % 12 = deH h := rfl
  have e4 : (h + 12 - 1) % 12 = deH h := by unfold deH; omega
  have w1 : IntKind.i64.wrap (h + 1) = h + 1 := IntWalk.i64_in _ (by omega)
  have w2 : (h + 1).tmod 12 = inH h := IntWalk.rem_in _ _ (by omega)
  have w3 : IntKind.i64.wrap (inH h) = inH h := IntWalk.i64_in _ (by omega)
  have b1 : ba < w.heap.size + 1 := by omega
  have b2 : ba < w.heap.size + 1 + 1 := by omega
  have b3 : ¬ ba = w.heap.size := by omega
  have b4 : ¬ ba = w.heap.size + 1 := by omega
  have b5 : ¬ ba = w.heap.size + 1 + 1 := by omega
  clear hv hs HA hca
  go_enter Tryd.func54, Tryd.ntmps54
  obtain ⟨k0, k1⟩ := bx2 w 31 28 #[.slice (some ⟨ba, oa, none⟩) gs.length c] #[.int .i64 h, .int .i64 q]
  have cw : ((w.alloc (.cells #[.slice (some ⟨ba, oa, none⟩) gs.length c] 31)).alloc (.cells #[.int .i64 h, .int .i64 q] 28)).cell? ⟨ba, oa + q.toNat, none⟩ = some (.int .i64 (gapM gs q)) := (Below.cell (B := w.heap.size) (p := ⟨ba, oa + q.toNat, none⟩) (by go_grown) hba).trans ca
  have HSr := Lib.hid (fun (w' : World) (hw : Below (w.heap.size + 1 + 1) ((w.alloc (.cells #[.slice (some ⟨ba, oa, none⟩) gs.length c] 31)).alloc (.cells #[.int .i64 h, .int .i64 q] 28)) w') => (⟨(k0.belowB hw (by omega)).cell 0 rfl, (k1.belowB hw (by omega)).cell 0 rfl, (k1.belowB hw (by omega)).cell 1 rfl, (World.cell?_of_block (a := ⟨ba, oa + q.toNat, none⟩) (hw.block ba (by omega))).trans cw⟩ : w'.cell? ⟨w.heap.size, 0, none⟩ = some (.slice (some ⟨ba, oa, none⟩) gs.length c) ∧ w'.cell? ⟨w.heap.size + 1, 0, none⟩ = some (.int .i64 h) ∧ w'.cell? ⟨w.heap.size + 1, 1, none⟩ = some (.int .i64 q) ∧ w'.cell? ⟨ba, oa + q.toNat, none⟩ = some (.int .i64 (gapM gs q))))
  clear k0 k1 cw
  go_wp2_with fail
  go_region_held3 (fun w' => w'.cell? ⟨w.heap.size, 0, none⟩ = some (.slice (some ⟨ba, oa, none⟩) gs.length c) ∧ w'.cell? ⟨w.heap.size + 1, 0, none⟩ = some (.int .i64 h) ∧ w'.cell? ⟨w.heap.size + 1, 1, none⟩ = some (.int .i64 q) ∧ w'.cell? ⟨ba, oa + q.toNat, none⟩ = some (.int .i64 (gapM gs q))) (first | assumption | (refine HSr.out _ ?_; go_grown; done) | ((try dsimp only); (repeat' apply And.intro) <;> (first | assumption | (simp [go_sem, *]; done))) | go_keep) (fail)
  all_goals go_wp2
  all_goals (try simp only [Exit.inBlock, Exit.then])
  all_goals (refine bodyPost_ret (v := .tuple #[.agg #[.int .i64 (h), .int .i64 (nxQ gs q)], .int .i64 (gapM gs q)]) ?_ rfl ?_)
  all_goals first
    | exact ⟨rfl, by go_grown⟩
    | simp [results, Tryd.results54, go_sem]

set_option maxHeartbeats 4000000 in
theorem act_b (v : Value) (gs : List Int) (h q : Int) (w : World) (hv : Sl w v gs) (h1 : 1 ≤ gs.length) (hs : hsB gs h q = true) :
    Calls Tryd.prog 57 #[.agg #[v], .agg #[.int .i64 h, .int .i64 q], .int .u8 98] w fun e w' => e = .returned (.tuple #[.agg #[.int .i64 (deH h), .int .i64 (q)], .int .i64 (0)]) ∧ Below w.heap.size w w' := by
  obtain ⟨⟨g1, g2⟩, g3, g4⟩ := hsB_iff.1 hs
  obtain ⟨A, c, rfl, hac, hac', HA⟩ := hv.open_
  obtain ⟨ba, oa, rfl, hba, hca⟩ := HA.out q.toNat (by omega)
  have HC := Lib.hid (hca q.toNat (by omega))
  have ca : w.cell? ⟨ba, oa + q.toNat, none⟩ = some (.int .i64 (gapM gs q)) := by rw [gap_self g3 (by omega)]; exact HC.out
  have g5 : q < (gs.length : Int) := by omega
  have g6 : (1 : Int) ≤ (gs.length : Int) := by omega
  have g7 : (gs.length : Int) ≤ (c : Int) := by omega
  have n1 : ¬ gs = [] := fun e => by rw [e] at h1; simp at h1
  have n2 : ((gs.length : Int) == 0) = false := by simp [n1]
  have n3 : ¬ (gs.length : Int) = 0 := by omega
  obtain ⟨x1, x2⟩ := nxQ_in h1 q
  obtain ⟨y1, y2⟩ := inH_in h
  obtain ⟨z1, z2⟩ := deH_in h
  have e1 : (q + 1) % (gs.length : Int) = nxQ gs q := rfl
  have e2 : (h + 1) % 12 = inH h := rfl
  have e3 : (h - 1) % 12 = deH h := rfl
  have HF := Lib.hid (fun w' => floorMod_any (h - 1) 12 w' (by omega) (by omega) (by omega) (by omega))
  have b1 : ba < w.heap.size + 1 := by omega
  have b2 : ba < w.heap.size + 1 + 1 := by omega
  have b3 : ¬ ba = w.heap.size := by omega
  have b4 : ¬ ba = w.heap.size + 1 := by omega
  have b5 : ¬ ba = w.heap.size + 1 + 1 := by omega
  clear hv hs HA hca
  go_enter Tryd.func57, Tryd.ntmps57
  go_wp2_with (go_at_call 84; refine (HF.out _).mono ?_; rintro e w' ⟨rfl, rfl⟩)
  all_goals (try simp only [Exit.inBlock, Exit.then])
  all_goals (refine bodyPost_ret (v := .tuple #[.agg #[.int .i64 (deH h), .int .i64 (q)], .int .i64 (0)]) ?_ rfl ?_)
  all_goals first
    | exact ⟨rfl, by go_grown⟩
    | simp [results, Tryd.results57, go_sem]

set_option maxHeartbeats 4000000 in
theorem l23Step_b (v : Value) (gs : List Int) (h q : Int) (w : World) (hv : Sl w v gs) (h1 : 1 ≤ gs.length) (hs : hsB gs h q = true) :
    Calls Tryd.prog 54 #[.agg #[v], .agg #[.int .i64 h, .int .i64 q], .int .u8 98] w fun e w' => e = .returned (.tuple #[.agg #[.int .i64 (deH h), .int .i64 (q)], .int .i64 (0)]) ∧ Below w.heap.size w w' := by
  obtain ⟨⟨g1, g2⟩, g3, g4⟩ := hsB_iff.1 hs
  obtain ⟨A, c, rfl, hac, hac', HA⟩ := hv.open_
  obtain ⟨ba, oa, rfl, hba, hca⟩ := HA.out q.toNat (by omega)
  have HC := Lib.hid (hca q.toNat (by omega))
  have ca : w.cell? ⟨ba, oa + q.toNat, none⟩ = some (.int .i64 (gapM gs q)) := by rw [gap_self g3 (by omega)]; exact HC.out
  have g5 : q < (gs.length : Int) := by omega
  have g6 : (1 : Int) ≤ (gs.length : Int) := by omega
  have g7 : (gs.length : Int) ≤ (c : Int) := by omega
  have n1 : ¬ gs = [] := fun e => by rw [e] at h1; simp at h1
  have n2 : ((gs.length : Int) == 0) = false := by simp [n1]
  have n3 : ¬ (gs.length : Int) = 0 := by omega
  obtain ⟨x1, x2⟩ := nxQ_in h1 q
  obtain ⟨y1, y2⟩ := inH_in h
  obtain ⟨z1, z2⟩ := deH_in h
  have e1 : (q + 1) % (gs.length : Int) = nxQ gs q := rfl
  have e2 : (h + 1) % 12 = inH h := rfl
  have e3 : (h - 1) % 12 = deH h := rfl
  have e4 : (h + 12 - 1) % 12 = deH h := by unfold deH; omega
  have b1 : ba < w.heap.size + 1 := by omega
  have b2 : ba < w.heap.size + 1 + 1 := by omega
  have b3 : ¬ ba = w.heap.size := by omega
  have b4 : ¬ ba = w.heap.size + 1 := by omega
  have b5 : ¬ ba = w.heap.size + 1 + 1 := by omega
  clear hv hs HA hca
  go_enter Tryd.func54, Tryd.ntmps54
  go_wp2_with fail
  all_goals (try simp only [Exit.inBlock, Exit.then])
  all_goals (refine bodyPost_ret (v := .tuple #[.agg #[.int .i64 (deH h), .int .i64 (q)], .int .i64 (0)]) ?_ rfl ?_)
  all_goals first
    | exact ⟨rfl, by go_grown⟩
    | simp [results, Tryd.results54, go_sem]

end Go.Proofs.YtfddibdncniekaaDoor
