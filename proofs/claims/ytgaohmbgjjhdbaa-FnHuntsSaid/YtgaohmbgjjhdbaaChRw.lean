/- Chimes: the barrel that plays rows (RowsBarrel), in the program and in the reference. -/
import Derived.Test.YtgaohmbgjjhdbaaChR
import Derived.Test.YtgaohmbgjjhdbaaChU
import Derived.Test.YtgaohmbgjjhdbaaChRt
namespace Go.Proofs.Ytgaohmbgjjhdbaa
open Go.RowKit
attribute [local go_sem ↓] Go.wp_at_zero Go.wp_at_succ
attribute [local go_sem] cell?_grow frozen?_grow

/-- The first k pins of row i, rows of n bells. -/
def rbX (R : List (List Int)) (n i : Nat) : Nat → List (Int × Int)
  | 0 => []
  | k + 1 => rbX R n i k ++ [(((i * n + k : Nat) : Int), ix (rx R i) k)]
/-- The pins of the first i rows. -/
def rbA (R : List (List Int)) (n : Nat) : Nat → List (Int × Int)
  | 0 => []
  | i + 1 => rbA R n i ++ rbX R n i n
theorem rbX_length (R : List (List Int)) (n i k : Nat) : (rbX R n i k).length = k := by
  induction k with
  | zero => rfl
  | succ k ih => rw [rbX, List.length_append, ih]; rfl
theorem rbA_length (R : List (List Int)) (n i : Nat) : (rbA R n i).length = i * n := by
  induction i with
  | zero => simp [rbA]
  | succ i ih => rw [rbA, List.length_append, ih, rbX_length, Nat.add_mul]; omega
/-- The pins of the first i rows, and k of the next one. -/
def rbL (R : List (List Int)) (n i k : Nat) : List (Int × Int) := rbA R n i ++ rbX R n i k
theorem rbL_length (R : List (List Int)) (n i k : Nat) : (rbL R n i k).length = i * n + k := by rw [rbL, List.length_append, rbA_length, rbX_length]
theorem rbL_zero (R : List (List Int)) (n i : Nat) : rbL R n i 0 = rbA R n i := by simp [rbL, rbX]
theorem rbL_end (R : List (List Int)) (n i : Nat) : rbL R n i n = rbA R n (i + 1) := rfl
theorem rbL_succ (R : List (List Int)) (n i k : Nat) : rbL R n i (k + 1) = rbL R n i k ++ [(((rbL R n i k).length : Int), ix (rx R i) k)] := by
  rw [rbL_length]; simp only [rbL, rbX, List.append_assoc]
/-- Whether the pins of such rows fit on a barrel. -/
def rowFits (R : List (List Int)) : Bool := decide (R.length * (rx R 0).length ≤ 64)

set_option maxRecDepth 100000 in
set_option maxHeartbeats 4000000 in
theorem RowsBarrel_i1 (v : Value) (R : List (List Int)) (w : World) (hv : RdR w v R) (hl : ∀ i, i < R.length → (rx R i).length ≤ 134217728) (hk : rowK R = false) :
    Calls Try.prog 22 #[v] w fun e w' => ∃ v', e = .returned (.tuple #[.agg #[.int .i64 0, .int .i64 0, v'], .int .i64 1]) ∧ w'.ownsRow w.heap.size 62 2 v' ([] : List (Int × Int)).length (P64 ([] : List (Int × Int))) ∧ Below w.heap.size w w' := by
  have HRB := Lib.hid (fun w' (hb : Below w.heap.size w w') => rowBells_any v R w' (hv.below hb) hl)
  have HN := Lib.hid (rn_f hk)
  obtain ⟨A, c, rfl, hac, hac'⟩ := hv.form
  clear hv hl hk
  go_enter Try.func22, Try.ntmps22
  have HK0 := Lib.hid (bx1 w 33 #[.int .i64 0, .int .i64 0, .slice none 0 0])
  go_wp2_with fail
  refine (HRB.out _ (by go_grown)).mono ?_
  rintro e w1 ⟨rfl, hb1⟩
  rw [HN.out]
  have J0 := HK0.out.below hb1
  have q0 := J0.cell 0 rfl
  have q1 := J0.cell 1 rfl
  have q2 := J0.cell 2 rfl
  have f0 := J0.frozen 0
  have f1 := J0.frozen 1
  have f2 := J0.frozen 2
  have z0 := J0.lt
  have B1 : Below w.heap.size w w1 := Below.trans (by go_grown) (hb1.mono (by simp))
  clear J0 hb1
  go_wp2
  try simp only [Exit.inBlock, Exit.then]
  refine bodyPost_ret (v := .tuple #[.agg #[.int .i64 0, .int .i64 0, .slice none 0 0], .int .i64 1]) ?_ rfl ?_
  · simp [results, Try.results22, go_sem, q0, q1, q2]
  exact ⟨_, rfl, World.ownsRow_nil _ _ _ _, by go_grown⟩

set_option maxRecDepth 100000 in
set_option maxHeartbeats 8000000 in
theorem RowsBarrel_i2 (v : Value) (R : List (List Int)) (w : World) (hv : RdR w v R) (hl : ∀ i, i < R.length → (rx R i).length ≤ 134217728) (hR : R.length ≤ 1048576) (hk : rowK R = true) (hf : rowFits R = false) :
    Calls Try.prog 22 #[v] w fun e w' => ∃ v', e = .returned (.tuple #[.agg #[.int .i64 0, .int .i64 0, v'], .int .i64 5]) ∧ w'.ownsRow w.heap.size 62 2 v' ([] : List (Int × Int)).length (P64 ([] : List (Int × Int))) ∧ Below w.heap.size w w' := by
  have HRB := Lib.hid (fun w' (hb : Below w.heap.size w w') => rowBells_any v R w' (hv.below hb) hl)
  have HN := Lib.hid (rn_t hk)
  obtain ⟨A, c, rfl, hac, hac'⟩ := hv.form
  obtain ⟨h0, ⟨l1, l2⟩, _⟩ := rowK_iff.1 hk
  obtain ⟨N, hN⟩ : ∃ N, N = (rx R 0).length := ⟨_, rfl⟩
  have hf' : ¬ R.length * N ≤ 64 := by simpa [rowFits, hN] using hf
  have hm : R.length * N ≤ 1048576 * 8 := Nat.mul_le_mul hR (by omega)
  obtain ⟨T, hT⟩ : ∃ T : Nat, T = R.length * N := ⟨_, rfl⟩
  have hTi : (R.length : Int) * (N : Int) = (T : Int) := by rw [hT]; simp
  rw [← hT] at hf' hm
  rw [← hN] at l1 l2 HN
  have e1 : IntKind.i64.wrap ((R.length : Int) * (N : Int)) = (T : Int) := by rw [hTi]; exact IntWalk.i64_in _ (by omega)
  have e2 : IntKind.i64.wrap (T : Int) = (T : Int) := IntWalk.i64_in _ (by omega)
  have i2 : (64 : Int) < (T : Int) := by omega
  have ln : ((N : Int) == 0) = false := by
    have : ¬ (N : Int) = 0 := by omega
    simpa using this
  clear hv hl hk hf hT hN h0
  go_enter Try.func22, Try.ntmps22
  have HK0 := Lib.hid (bx1 w 33 #[.int .i64 0, .int .i64 0, .slice none 0 0])
  go_wp2_with fail
  refine (HRB.out _ (by go_grown)).mono ?_
  rintro e w1 ⟨rfl, hb1⟩
  rw [HN.out]
  have J0 := HK0.out.below hb1
  have q0 := J0.cell 0 rfl
  have q1 := J0.cell 1 rfl
  have q2 := J0.cell 2 rfl
  have f0 := J0.frozen 0
  have f1 := J0.frozen 1
  have f2 := J0.frozen 2
  have z0 := J0.lt
  have B1 : Below w.heap.size w w1 := Below.trans (by go_grown) (hb1.mono (by simp))
  have K0 := Lib.hid ((J0.put3 (.int .i64 0) (.int .i64 0) (.slice none 0 0)).alloc (.cells #[.int .i64 (T : Int), .int .i64 (N : Int), .slice none 0 0] 33))
  clear J0 hb1
  go_wp2
  try simp only [Exit.inBlock, Exit.then]
  refine bodyPost_ret (v := .tuple #[.agg #[.int .i64 0, .int .i64 0, .slice none 0 0], .int .i64 5]) ?_ rfl ?_
  · have r0 := K0.out.cell 0 rfl
    have r1 := K0.out.cell 1 rfl
    have r2 := K0.out.cell 2 rfl
    simp [results, Try.results22, go_sem, r0, r1, r2]
  exact ⟨_, rfl, World.ownsRow_nil _ _ _ _, by go_grown⟩

set_option maxRecDepth 100000 in
set_option maxHeartbeats 16000000 in
theorem RowsBarrel_i0 (v : Value) (R : List (List Int)) (w : World) (hv : RdR w v R) (hl : ∀ i, i < R.length → (rx R i).length ≤ 134217728) (hk : rowK R = true) (hf : rowFits R = true) :
    Calls Try.prog 22 #[v] w fun e w' => ∃ v', e = .returned (.tuple #[.agg #[.int .i64 ((R.length : Int) * ((rx R 0).length : Int)), .int .i64 ((rx R 0).length : Int), v'], .int .i64 0]) ∧ w'.ownsRow w.heap.size 62 2 v' (rbA R (rx R 0).length R.length).length (P64 (rbA R (rx R 0).length R.length)) ∧ Below w.heap.size w w' := by
  have HV := Lib.hid hv
  have HK := Lib.hid hk
  have HRB := Lib.hid (fun w' (hb : Below w.heap.size w w') => rowBells_any v R w' (hv.below hb) hl)
  have HN := Lib.hid (rn_t hk)
  obtain ⟨A, c, rfl, hac, hac'⟩ := hv.form
  obtain ⟨h0, ⟨l1, l2⟩, _⟩ := rowK_iff.1 hk
  obtain ⟨N, hN⟩ : ∃ N, N = (rx R 0).length := ⟨_, rfl⟩
  have hf' : R.length * N ≤ 64 := by simpa [rowFits, hN] using hf
  obtain ⟨T, hT⟩ : ∃ T : Nat, T = R.length * N := ⟨_, rfl⟩
  have hTi : (R.length : Int) * (N : Int) = (T : Int) := by rw [hT]; simp
  have HT := Lib.hid hT
  rw [← hT] at hf'
  rw [← hN] at l1 l2 HN ⊢
  rw [hTi]
  have e1 : IntKind.i64.wrap ((R.length : Int) * (N : Int)) = (T : Int) := by rw [hTi]; exact IntWalk.i64_in _ (by omega)
  have e2 : IntKind.i64.wrap (T : Int) = (T : Int) := IntWalk.i64_in _ (by omega)
  have i2 : ¬ (64 : Int) < (T : Int) := by omega
  have ln : ((N : Int) == 0) = false := by
    have : ¬ (N : Int) = 0 := by omega
    simpa using this
  have HF : Hid (∀ i, i < R.length → (rx R i).length = N) := fun i hi => by rw [hN]; exact (row_facts HK.out hi).1
  have HTB : Hid (∀ i k, i < R.length → k ≤ N → i * N + k ≤ T) := fun i k hi hk => by
    rw [HT.out]
    have := Nat.mul_le_mul_right N (show i + 1 ≤ R.length by omega)
    rw [Nat.add_mul] at this; omega
  clear hv hl hk hf hT hN h0 hTi
  go_enter Try.func22, Try.ntmps22
  have HK0 := Lib.hid (bx1 w 33 #[.int .i64 0, .int .i64 0, .slice none 0 0])
  go_wp2_with fail
  refine (HRB.out _ (by go_grown)).mono ?_
  rintro e w1 ⟨rfl, hb1⟩
  rw [HN.out]
  have J0 := HK0.out.below hb1
  have B1 : Below w.heap.size w w1 := Below.trans (by go_grown) (hb1.mono (by simp))
  have z0 := J0.lt
  have HJ0 := Lib.hid (J0.alloc (.cells #[.int .i64 (T : Int), .int .i64 (N : Int), .slice none 0 0] 33))
  have HJ1 := Lib.hid (Blk.new w1 33 #[.int .i64 (T : Int), .int .i64 (N : Int), .slice none 0 0])
  have HB1 := Lib.hid B1
  clear J0 hb1 B1
  go_wp2_with fail
  go_loopw [27] (fun i wr => ∃ m q, m ≤ R.length ∧ i = .int .i64 (m : Nat) ∧ wr.ownsRow (w1.heap.size + 1) 62 2 q (rbA R N m).length (P64 (rbA R N m)) ∧ Blk wr w1.heap.size 33 #[.int .i64 (T : Int), .int .i64 (N : Int), q] ∧ Blk wr w.heap.size 33 #[.int .i64 0, .int .i64 0, .slice none 0 0] ∧ Below w.heap.size w wr ∧ w1.heap.size + 1 ≤ wr.heap.size) (fun i _ => R.length - (intOf i).toNat)
  case atStart => exact ⟨0, _, Nat.zero_le _, rfl, World.ownsRow_nil _ _ _ _, HJ1.out, HJ0.out, by have := HB1.out; go_grown, by simp⟩
  case round =>
    obtain ⟨m, q, hm, rfl, ho, b1, b0, hB, hz⟩ := hrel
    obtain ⟨wo, rfl⟩ : ∃ x : World, x = wr := ⟨_, rfl⟩
    have HB := Lib.hid hB
    have HO := Lib.hid ho
    have P0 := Lib.hid b0
    have P1 := Lib.hid b1
    by_cases hlt : m < R.length
    · obtain ⟨b2, o2, A2, c2, rfl, hb2, hu2, hs2⟩ := HV.out.at_ hlt
      have u2 : wo.cell? ⟨b2, o2 + m, none⟩ = _ := (hB.cell (p := ⟨b2, o2 + m, none⟩) hb2).trans hu2
      have i1 : (m : Int) < (R.length : Int) := by omega
      have HS2 := Lib.hid hs2
      have hfm := HF.out m hlt
      have HFM := Lib.hid hfm
      clear ho b0 b1 hB hs2 hu2 hfm
      go_wp2_with fail
      go_loopw [33] (fun i wr => ∃ k q, k ≤ (rx R m).length ∧ i = .int .i64 (k : Nat) ∧ wr.ownsRow (w1.heap.size + 1) 62 2 q (rbL R N m k).length (P64 (rbL R N m k)) ∧ Blk wr w1.heap.size 33 #[.int .i64 (T : Int), .int .i64 (N : Int), q] ∧ Blk wr w.heap.size 33 #[.int .i64 0, .int .i64 0, .slice none 0 0] ∧ Below w.heap.size w wr ∧ w1.heap.size + 1 ≤ wr.heap.size) (fun i _ => (rx R m).length - (intOf i).toNat)
      case atStart => exact ⟨0, q, Nat.zero_le _, rfl, by rw [rbL_zero]; exact HO.out, P1.out, P0.out, HB.out, hz⟩
      case round =>
        obtain ⟨k, q, hk, rfl, ho, b1, b0, hB, hz⟩ := hrel
        have HBk := Lib.hid hB
        have hwz := HB1.out.size
        by_cases hkl : k < (rx R m).length
        · obtain ⟨l, hml⟩ : ∃ l, (rbL R N m k).length = l := ⟨_, rfl⟩
          have HE : Hid (rbL R N m k ++ [((l : Int), ix (rx R m) k)] = rbL R N m (k + 1)) := by show _ = _; rw [rbL_succ, hml]
          have hlT : l ≤ T := by rw [← hml, rbL_length]; exact HTB.out m k hlt (by have := HFM.out; omega)
          have HL : Hid ((rbL R N m k).length ≤ 134217728) := by show _ ≤ _; omega
          have HML := Lib.hid hml
          rw [hml] at ho
          obtain ⟨Aq, cq, rfl⟩ := own_form ho
          have HOL : Hid (wr.ownsRow (w1.heap.size + 1) 62 2 (.slice Aq l cq) (rbL R N m k).length (P64 (rbL R N m k))) := by
            show World.ownsRow _ _ _ _ _ _ _
            rw [HML.out]; exact ho
          obtain ⟨_, _, e9, _, _, HA9⟩ := (HS2.out.below hB).open_
          injection e9 with e9 _ e10
          subst e9 e10
          obtain ⟨b3, o3, rfl, hb3, hc3⟩ := HA9.out k hkl
          have a3 := hc3 k hkl
          have i3 : (k : Int) < ((rx R m).length : Int) := by omega
          have q2 := b1.cell 2 rfl
          have z1 := b1.lt
          have P0 := Lib.hid b0
          have P1 := Lib.hid b1
          clear ho b0 b1 hB hml HA9 hc3
          go_wp2_with (at_builtin; refine wpList_appPin rfl _ _ rfl (w1.heap.size + 1) _ (rbL R N m k) rfl HOL.out (l : Int) (ix (rx R m) k) wr.heap.size rfl rfl HL.out (by omega) ?_; intro v6 w6 ho6 hb6 hg6; rw [HE.out] at ho6; obtain ⟨A6, c6, rfl⟩ := own_form ho6; have HO6 := Lib.hid ho6; have HB6 := Lib.hid hb6; have j1 := P1.out.belowB hb6 (by omega); have t2 := j1.cell 2 rfl; have g2 := j1.frozen 2; have y1 := j1.lt; have HJ1 := Lib.hid (j1.set_ 2 (.slice A6 (rbL R N m (k + 1)).length c6)); have HJ0 := Lib.hid ((P0.out.belowB hb6 (by omega)).far (p := ⟨w1.heap.size, 2, none⟩) (by simp; omega) (.slice A6 (rbL R N m (k + 1)).length c6)); have s6 := hb6.size; clear ho6 hb6 hg6 j1)
          go_roundw
          case rel => exact ⟨k + 1, _, by omega, by go_num, own_setCell HO6.out (by simp) _, HJ1.out, HJ0.out, by have h1 := HBk.out; have h2 := HB6.out.mono (show w.heap.size ≤ w1.heap.size + 1 by omega); exact (h1.trans h2).setCell (by simp; omega) _, by simp; omega⟩
          case measure => simp [intOf]; omega
        · have hkN : k = N := by have := HFM.out; omega
          have HEN : Hid (rbL R N m k = rbA R N (m + 1)) := by show _ = _; rw [hkN, rbL_end]
          have HO2 := Lib.hid ho
          clear ho
          go_wp2
          go_roundw
          case rel => exact ⟨m + 1, q, by omega, by go_num, by rw [← HEN.out]; exact HO2.out, b1, b0, HBk.out, hz⟩
          case measure => simp [intOf]; omega
    · obtain rfl : m = R.length := by omega
      obtain ⟨Aq, cq, rfl⟩ := own_form ho
      have q0 := b1.cell 0 rfl
      have q1 := b1.cell 1 rfl
      have q2 := b1.cell 2 rfl
      have p0 := b0.cell 0 rfl
      have p1 := b0.cell 1 rfl
      have p2 := b0.cell 2 rfl
      have f0 := b0.frozen 0
      have f1 := b0.frozen 1
      have f2 := b0.frozen 2
      have z1 := b0.lt
      have z2 := b1.lt
      clear ho b0 b1 hB
      go_wp2
      try simp only [Exit.inBlock, Exit.then]
      refine bodyPost_ret (v := .tuple #[.agg #[.int .i64 (T : Int), .int .i64 (N : Int), .slice Aq (rbA R N R.length).length cq], .int .i64 0]) ?_ rfl ?_
      · simp [results, Try.results22, go_sem, p0, p1, p2]
      refine ⟨_, rfl, own_mono (base := w1.heap.size + 1) ?_ (by have := HB1.out.size; omega), by have := HB.out; go_grown⟩
      repeat (refine own_setCell ?_ (by first | (simp; done) | (simp; omega) | omega) _)
      exact HO.out
end Go.Proofs.Ytgaohmbgjjhdbaa
