/- Dividing heads: ExactDivisions in the program and in the reference. -/
import Derived.Test.YtlfahiaoekcepaaDvM
namespace Go.Proofs.Ytlfahiaoekcepaa
open Go.RowKit
attribute [local go_sem ↓] Go.wp_at_zero Go.wp_at_succ

instance (wm : Int) (cs : List Int) (n : Int) (k : Nat) : Decidable (NoFit wm cs n k) := inferInstanceAs (Decidable (∀ j, j < k → ¬ Fits wm cs n j))
/-- Whether n divisions are exact. -/
def fitB (wm : Int) (cs : List Int) (n : Int) : Bool := !(decide (NoFit wm cs n cs.length))
theorem fitB_f {wm : Int} {cs : List Int} {n : Int} (h : NoFit wm cs n cs.length) : fitB wm cs n = false := by simp [fitB, h]
theorem fitB_t {wm : Int} {cs : List Int} {n : Int} {k : Nat} (h : k < cs.length) (hf : Fits wm cs n k) : fitB wm cs n = true := by
  have : ¬ NoFit wm cs n cs.length := fun e => e k h hf
  simp [fitB, this]
/-- The exact divisions up to m. -/
def exD (wm : Int) (cs : List Int) : Nat → List Int
  | 0 => []
  | m + 1 => if fitB wm cs ((m : Int) + 1) = true then exD wm cs m ++ [(m : Int) + 1] else exD wm cs m
theorem exD_t {wm : Int} {cs : List Int} {m : Nat} (h : fitB wm cs ((m : Int) + 1) = true) : exD wm cs (m + 1) = exD wm cs m ++ [(m : Int) + 1] := by rw [exD, if_pos h]
theorem exD_f {wm : Int} {cs : List Int} {m : Nat} (h : fitB wm cs ((m : Int) + 1) = false) : exD wm cs (m + 1) = exD wm cs m := by rw [exD, if_neg (by simp [h])]
theorem exD_length (wm : Int) (cs : List Int) (m : Nat) : (exD wm cs m).length ≤ m := by
  induction m with
  | zero => simp [exD]
  | succ m ih => rw [exD]; split <;> (try simp) <;> omega
theorem exactIndex_b (v : Value) (cs : List Int) (wm n : Int) (w : World) (hv : Sl w v cs) (hd : dvB wm cs = true) (hn1 : 1 ≤ n) (hn2 : n ≤ 2000) :
    Calls Try.prog 48 #[.agg #[.int .i64 wm, v], .int .i64 n] w fun e w' => (∃ a b c : Int, e = .returned (.tuple #[.agg #[.int .i64 a, .int .i64 b, .int .i64 c], .bool (fitB wm cs n)])) ∧ Below w.heap.size w w' := by
  rcases fit_first wm cs n cs.length with hno | ⟨K, hK, hf, hno⟩
  · exact (exactIndex_1 v cs wm n w hv hd hn1 hn2 hno).mono fun _ _ ⟨he, hb⟩ => ⟨⟨_, _, _, he.trans (by rw [fitB_f hno])⟩, hb⟩
  · exact (exactIndex_0 v cs wm n w hv hd hn1 hn2 K hK hf hno).mono fun _ _ ⟨he, hb⟩ => ⟨⟨_, _, _, he.trans (by rw [fitB_t hK hf])⟩, hb⟩
theorem l24Exact_b (v : Value) (cs : List Int) (wm n : Int) (w : World) (hv : Sl w v cs) (hd : dvB wm cs = true) (hn1 : 1 ≤ n) (hn2 : n ≤ 2000) :
    Calls Try.prog 46 #[.agg #[.int .i64 wm, v], .int .i64 n] w fun e w' => (∃ a b c : Int, e = .returned (.tuple #[.agg #[.int .i64 a, .int .i64 b, .int .i64 c], .bool (fitB wm cs n)])) ∧ Below w.heap.size w w' := by
  rcases fit_first wm cs n cs.length with hno | ⟨K, hK, hf, hno⟩
  · exact (l24Exact_1 v cs wm n w hv hd hn1 hn2 hno).mono fun _ _ ⟨he, hb⟩ => ⟨⟨_, _, _, he.trans (by rw [fitB_f hno])⟩, hb⟩
  · exact (l24Exact_0 v cs wm n w hv hd hn1 hn2 K hK hf hno).mono fun _ _ ⟨he, hb⟩ => ⟨⟨_, _, _, he.trans (by rw [fitB_t hK hf])⟩, hb⟩
set_option maxHeartbeats 2000000 in
theorem ExactDivisions_i1 (v : Value) (cs : List Int) (wm n : Int) (w : World) (hv : Sl w v cs) (hs : dvB wm cs = false) :
    Calls Try.prog 27 #[.agg #[.int .i64 wm, v], .int .i64 n] w fun e w' => ∃ v', e = .returned (.tuple #[v', .int .i64 1]) ∧ w'.ownsRow w.heap.size 2 1 v' ([] : List Int).length (I64 ([] : List Int)) ∧ Below w.heap.size w w' := by
  have H1 := Lib.hid (fun w' (hb : Below w.heap.size w w') => ValidDivider_i v cs wm w' (hv.below hb))
  have HB := Lib.hid hs
  clear hv hs
  go_enter Try.func27, Try.ntmps27
  go_wp2_with fail
  refine (H1.out _ (by go_grown)).mono ?_
  rintro e w1 ⟨rfl, hb1⟩
  rw [HB.out]
  have B1 : Below w.heap.size w w1 := Below.trans (by go_grown) (hb1.mono (by simp))
  go_wp2_with fail
  go_ret2
  exact ⟨_, rfl, World.ownsRow_nil _ _ _ _, B1⟩

set_option maxHeartbeats 2000000 in
theorem ExactDivisions_s1 (v : Value) (cs : List Int) (wm n : Int) (w : World) (hv : Sl w v cs) (hs : dvB wm cs = false) :
    Calls Try.prog 26 #[.agg #[.int .i64 wm, v], .int .i64 n] w fun e w' => ∃ v', e = .returned (.tuple #[v', .int .i64 1]) ∧ w'.ownsRow w.heap.size 2 1 v' ([] : List Int).length (I64 ([] : List Int)) ∧ Below w.heap.size w w' := by
  have H1 := Lib.hid (fun w' (hb : Below w.heap.size w w') => l24Code_any v cs wm n w' (hv.below hb))
  have HB := Lib.hid (dvC1 hs : dvC wm cs n = _)
  clear hv hs
  go_enter Try.func26, Try.ntmps26
  go_wp2_with fail
  refine (H1.out _ (by go_grown)).mono ?_
  rintro e w1 ⟨rfl, hb1⟩
  rw [HB.out]
  have B1 : Below w.heap.size w w1 := Below.trans (by go_grown) (hb1.mono (by simp))
  go_wp2_with fail
  go_ret2
  exact ⟨_, rfl, World.ownsRow_nil _ _ _ _, B1⟩

set_option maxHeartbeats 2000000 in
theorem ExactDivisions_i2 (v : Value) (cs : List Int) (wm n : Int) (w : World) (hv : Sl w v cs) (hs : dvB wm cs = true) (hn : inB n 1 2000 = false) :
    Calls Try.prog 27 #[.agg #[.int .i64 wm, v], .int .i64 n] w fun e w' => ∃ v', e = .returned (.tuple #[v', .int .i64 2]) ∧ w'.ownsRow w.heap.size 2 1 v' ([] : List Int).length (I64 ([] : List Int)) ∧ Below w.heap.size w w' := by
  have H1 := Lib.hid (fun w' (hb : Below w.heap.size w w') => ValidDivider_i v cs wm w' (hv.below hb))
  have HB := Lib.hid hs
  clear hv hs
  go_enter Try.func27, Try.ntmps27
  go_wp2_with fail
  refine (H1.out _ (by go_grown)).mono ?_
  rintro e w1 ⟨rfl, hb1⟩
  rw [HB.out]
  have B1 : Below w.heap.size w w1 := Below.trans (by go_grown) (hb1.mono (by simp))
  go_wp2_with (go_at_call 47; refine (isDivision_any _ _).mono ?_; rintro e w' ⟨rfl, rfl⟩)
  go_ret2
  exact ⟨_, rfl, World.ownsRow_nil _ _ _ _, B1⟩

set_option maxHeartbeats 2000000 in
theorem ExactDivisions_s2 (v : Value) (cs : List Int) (wm n : Int) (w : World) (hv : Sl w v cs) (hs : dvB wm cs = true) (hn : inB n 1 2000 = false) :
    Calls Try.prog 26 #[.agg #[.int .i64 wm, v], .int .i64 n] w fun e w' => ∃ v', e = .returned (.tuple #[v', .int .i64 2]) ∧ w'.ownsRow w.heap.size 2 1 v' ([] : List Int).length (I64 ([] : List Int)) ∧ Below w.heap.size w w' := by
  have H1 := Lib.hid (fun w' (hb : Below w.heap.size w w') => l24Code_any v cs wm n w' (hv.below hb))
  have HB := Lib.hid (dvC2 hs hn : dvC wm cs n = _)
  clear hv hs
  go_enter Try.func26, Try.ntmps26
  go_wp2_with fail
  refine (H1.out _ (by go_grown)).mono ?_
  rintro e w1 ⟨rfl, hb1⟩
  rw [HB.out]
  have B1 : Below w.heap.size w w1 := Below.trans (by go_grown) (hb1.mono (by simp))
  go_wp2_with fail
  go_ret2
  exact ⟨_, rfl, World.ownsRow_nil _ _ _ _, B1⟩

set_option maxRecDepth 100000 in
set_option maxHeartbeats 8000000 in
theorem ExactDivisions_i0 (v : Value) (cs : List Int) (wm : Int) (N : Nat) (w : World) (hv : Sl w v cs) (hs : dvB wm cs = true) (hN : N ≤ 2000) (hN1 : 1 ≤ N) :
    Calls Try.prog 27 #[.agg #[.int .i64 wm, v], .int .i64 N] w fun e w' => ∃ v', e = .returned (.tuple #[v', .int .i64 0]) ∧ w'.ownsRow w.heap.size 2 1 v' (exD wm cs N).length (I64 (exD wm cs N)) ∧ Below w.heap.size w w' := by
  have e1 : inB (N : Int) 1 2000 = true := inB_t (by omega) (by omega)
  have H1 := Lib.hid (fun w' (hb : Below w.heap.size w w') => ValidDivider_i v cs wm w' (hv.below hb))
  have HB := Lib.hid hs
  have H2 := Lib.hid (fun (k : Nat) w' (hb : Below w.heap.size w w') (hk : k < N) => exactIndex_b v cs wm ((k : Int) + 1) w' (hv.below hb) hs (by omega) (by omega))
  clear hv hs
  go_enter Try.func27, Try.ntmps27
  have HK0 := Lib.hid (bx1 w 27 #[.int .i64 wm, v])
  go_wp2_with fail
  refine (H1.out _ (by go_grown)).mono ?_
  rintro e w1 ⟨rfl, hb1⟩
  rw [HB.out]
  have J0 := Lib.hid (HK0.out.below hb1)
  have z0 := J0.out.lt
  have B1 : Below w.heap.size w w1 := Below.trans (by go_grown) (hb1.mono (by simp))
  clear hb1 HK0
  go_wp2_with (go_at_call 47; refine (isDivision_any _ _).mono ?_; rintro e w' ⟨rfl, rfl⟩)
  go_loopw [6, 7] (fun x i wr => ∃ k : Nat, k ≤ N ∧ i = .int .i64 (k + 1) ∧ wr.ownsRow (w.heap.size + 1) 2 1 x (exD wm cs k).length (I64 (exD wm cs k)) ∧ Blk wr w.heap.size 27 #[.int .i64 wm, v] ∧ Below w.heap.size w wr) (fun _ i _ => N + 1 - (intOf i).toNat)
  case atStart => exact ⟨0, by omega, by go_num, World.ownsRow_nil _ _ _ _, J0.out, by go_grown⟩
  case round =>
    obtain ⟨k, hk, rfl, hown, b0, hB⟩ := hrel
    obtain ⟨Ax, cx, rfl⟩ := own_form hown
    have q0 := b0.cell 0 rfl
    have q1 := b0.cell 1 rfl
    have HO := Lib.hid hown
    have P0 := Lib.hid b0
    clear hown b0
    by_cases hlt : k < N
    · have i1 : (k : Int) + 1 ≤ (N : Int) := by omega
      go_wp2_with fail
      refine (H2.out k _ hB hlt).mono ?_
      rintro e w2 ⟨⟨ga, gb, gc, rfl⟩, hb2⟩
      have B2 := hB.trans (hb2.mono hB.size)
      have HO2 := Lib.hid (own_below HO.out hb2)
      have P2 := Lib.hid (P0.out.below hb2)
      have hsz : w.heap.size + 1 ≤ w2.heap.size := P2.out.lt
      have hll : (exD wm cs k).length ≤ 134217728 := by have := exD_length wm cs k; omega
      clear q0 q1 HO P0 hb2 hB
      cases hf : fitB wm cs ((k : Int) + 1) with
      | true =>
        have HE := Lib.hid (exD_t hf)
        have HOa := Lib.hid (HO2.out.alloc (.cells #[.int .i64 ga, .int .i64 gb, .int .i64 gc] 34))
        clear hf
        go_wp2_with (at_builtin; refine wpList_app1g rfl _ _ rfl (w.heap.size + 1) _ (exD wm cs k) rfl HOa.out _ _ rfl (by simp) hll (by simp; omega) ?_; intro v3 w3 hown3 hb3 hg3; have O3 := Lib.hid hown3; have P3 := Lib.hid ((P2.out.alloc (.cells #[.int .i64 ga, .int .i64 gb, .int .i64 gc] 34)).belowB hb3 (by omega)); have B3 := Below.trans (B2.alloc B2.size _) (hb3.mono (by omega)); clear hown3 hb3 hg3)
        go_roundw
        case rel => exact ⟨k + 1, by omega, by go_num, by rw [HE.out]; exact O3.out, P3.out, B3⟩
        case measure => simp [intOf]; omega
      | false =>
        have HE := Lib.hid (exD_f hf)
        clear hf
        go_wp2_with fail
        go_roundw
        case rel => exact ⟨k + 1, by omega, by go_num, by rw [HE.out]; exact HO2.out.alloc _, P2.out.alloc _, by go_grown⟩
        case measure => simp [intOf]; omega
    · obtain rfl : k = N := by omega
      have i1 : (k : Int) < (k : Int) + 1 := by omega
      go_wp2
      go_ret2
      exact ⟨_, rfl, own_mono HO.out (by omega), hB⟩

set_option maxRecDepth 100000 in
set_option maxHeartbeats 8000000 in
theorem ExactDivisions_s0 (v : Value) (cs : List Int) (wm : Int) (N : Nat) (w : World) (hv : Sl w v cs) (hs : dvB wm cs = true) (hN : N ≤ 2000) (hN1 : 1 ≤ N) :
    Calls Try.prog 26 #[.agg #[.int .i64 wm, v], .int .i64 N] w fun e w' => ∃ v', e = .returned (.tuple #[v', .int .i64 0]) ∧ w'.ownsRow w.heap.size 2 1 v' (exD wm cs N).length (I64 (exD wm cs N)) ∧ Below w.heap.size w w' := by
  have e1 : inB (N : Int) 1 2000 = true := inB_t (by omega) (by omega)
  have H1 := Lib.hid (fun w' (hb : Below w.heap.size w w') => l24Code_any v cs wm N w' (hv.below hb))
  have HB := Lib.hid (dvC0 hs e1)
  have H2 := Lib.hid (fun (k : Nat) w' (hb : Below w.heap.size w w') (hk : k < N) => l24Exact_b v cs wm ((k : Int) + 1) w' (hv.below hb) hs (by omega) (by omega))
  clear hv hs
  go_enter Try.func26, Try.ntmps26
  have HK0 := Lib.hid (bx1 w 27 #[.int .i64 wm, v])
  go_wp2_with fail
  refine (H1.out _ (by go_grown)).mono ?_
  rintro e w1 ⟨rfl, hb1⟩
  rw [HB.out]
  have J0 := Lib.hid (HK0.out.below hb1)
  have z0 := J0.out.lt
  have B1 : Below w.heap.size w w1 := Below.trans (by go_grown) (hb1.mono (by simp))
  clear hb1 HK0
  go_wp2_with fail
  go_loopw [7, 8] (fun x i wr => ∃ k : Nat, k ≤ N ∧ i = .int .i64 (k + 1) ∧ wr.ownsRow (w.heap.size + 1) 2 1 x (exD wm cs k).length (I64 (exD wm cs k)) ∧ Blk wr w.heap.size 27 #[.int .i64 wm, v] ∧ Below w.heap.size w wr) (fun _ i _ => N + 1 - (intOf i).toNat)
  case atStart => exact ⟨0, by omega, by go_num, own_lit w1 w1.heap.size rfl z0 _, J0.out.alloc _, by go_grown⟩
  case round =>
    obtain ⟨k, hk, rfl, hown, b0, hB⟩ := hrel
    obtain ⟨Ax, cx, rfl⟩ := own_form hown
    have q0 := b0.cell 0 rfl
    have q1 := b0.cell 1 rfl
    have HO := Lib.hid hown
    have P0 := Lib.hid b0
    clear hown b0
    by_cases hlt : k < N
    · have i1 : (k : Int) + 1 ≤ (N : Int) := by omega
      go_wp2_with fail
      refine (H2.out k _ hB hlt).mono ?_
      rintro e w2 ⟨⟨ga, gb, gc, rfl⟩, hb2⟩
      have B2 := hB.trans (hb2.mono hB.size)
      have HO2 := Lib.hid (own_below HO.out hb2)
      have P2 := Lib.hid (P0.out.below hb2)
      have hsz : w.heap.size + 1 ≤ w2.heap.size := P2.out.lt
      have hll : (exD wm cs k).length ≤ 134217728 := by have := exD_length wm cs k; omega
      clear q0 q1 HO P0 hb2 hB
      cases hf : fitB wm cs ((k : Int) + 1) with
      | true =>
        have HE := Lib.hid (exD_t hf)
        have HOa := Lib.hid (HO2.out.alloc (.cells #[.int .i64 ga, .int .i64 gb, .int .i64 gc] 34))
        clear hf
        go_wp2_with (at_builtin; refine wpList_app1g rfl _ _ rfl (w.heap.size + 1) _ (exD wm cs k) rfl HOa.out _ _ rfl (by simp) hll (by simp; omega) ?_; intro v3 w3 hown3 hb3 hg3; have O3 := Lib.hid hown3; have P3 := Lib.hid ((P2.out.alloc (.cells #[.int .i64 ga, .int .i64 gb, .int .i64 gc] 34)).belowB hb3 (by omega)); have B3 := Below.trans (B2.alloc B2.size _) (hb3.mono (by omega)); clear hown3 hb3 hg3)
        go_roundw
        case rel => exact ⟨k + 1, by omega, by go_num, by rw [HE.out]; exact O3.out, P3.out, B3⟩
        case measure => simp [intOf]; omega
      | false =>
        have HE := Lib.hid (exD_f hf)
        clear hf
        go_wp2_with fail
        go_roundw
        case rel => exact ⟨k + 1, by omega, by go_num, by rw [HE.out]; exact HO2.out.alloc _, P2.out.alloc _, by go_grown⟩
        case measure => simp [intOf]; omega
    · obtain rfl : k = N := by omega
      have i1 : (k : Int) < (k : Int) + 1 := by omega
      go_wp2
      go_ret2
      exact ⟨_, rfl, own_mono HO.out (by omega), hB⟩

theorem ExactDivisions_both (wm : Int) (cs : List Int) (n : Int) : ∃ (rl : List Int) (rc : Int), rl.length ≤ 3000 ∧
    (∀ v w, Sl w v cs → Calls Try.prog 27 #[.agg #[.int .i64 wm, v], .int .i64 n] w fun e w' => ∃ v', e = .returned (.tuple #[v', .int .i64 rc]) ∧ w'.ownsRow w.heap.size 2 1 v' rl.length (I64 rl) ∧ Below w.heap.size w w') ∧
    (∀ v w, Sl w v cs → Calls Try.prog 26 #[.agg #[.int .i64 wm, v], .int .i64 n] w fun e w' => ∃ v', e = .returned (.tuple #[v', .int .i64 rc]) ∧ w'.ownsRow w.heap.size 2 1 v' rl.length (I64 rl) ∧ Below w.heap.size w w') := by
  cases hs : dvB wm cs with
  | false => exact ⟨[], _, Nat.zero_le _, fun v w hv => ExactDivisions_i1 v cs wm n w hv hs, fun v w hv => ExactDivisions_s1 v cs wm n w hv hs⟩
  | true =>
    cases hn : inB n 1 2000 with
    | false => exact ⟨[], _, Nat.zero_le _, fun v w hv => ExactDivisions_i2 v cs wm n w hv hs hn, fun v w hv => ExactDivisions_s2 v cs wm n w hv hs hn⟩
    | true =>
      have h := inB_iff.1 hn
      obtain ⟨N, rfl⟩ := Int.eq_ofNat_of_zero_le (show 0 ≤ n by omega)
      exact ⟨exD wm cs N, _, Nat.le_trans (exD_length wm cs N) (by omega), fun v w hv => ExactDivisions_i0 v cs wm N w hv hs (by omega) (by omega), fun v w hv => ExactDivisions_s0 v cs wm N w hv hs (by omega) (by omega)⟩
end Go.Proofs.Ytlfahiaoekcepaa
