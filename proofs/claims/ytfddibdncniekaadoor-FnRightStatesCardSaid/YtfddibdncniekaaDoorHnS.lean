/- The setting of hands: RightStates in the program and in the reference. -/
import Derived.Test.YtfddibdncniekaaDoorHnR
import Derived.Test.YtfddibdncniekaaDoorPxHandState
namespace Go.Proofs.YtfddibdncniekaaDoor
open Go.RowKit
attribute [local go_sem ↓] Go.wp_at_zero Go.wp_at_succ

/-- The right states of hour k among the first m notches. -/
def rsIn (gs : List Int) (k : Nat) : Nat → List (Int × Int)
  | 0 => []
  | m + 1 => if rgB gs (k : Int) (m : Int) = true then rsIn gs k m ++ [((k : Int), (m : Int))] else rsIn gs k m
def rsAll (gs : List Int) : Nat → List (Int × Int)
  | 0 => []
  | k + 1 => rsAll gs k ++ rsIn gs k gs.length
/-- The right states of the first k hours and of hour k's first m notches. -/
def rsK (gs : List Int) (k m : Nat) : List (Int × Int) := rsAll gs k ++ rsIn gs k m
theorem rsK_zero (gs : List Int) (k : Nat) : rsK gs k 0 = rsAll gs k := by simp [rsK, rsIn]
theorem rsK_end (gs : List Int) (k : Nat) : rsK gs k gs.length = rsAll gs (k + 1) := rfl
theorem rsIn_t {gs : List Int} {k m : Nat} (h : rgB gs (k : Int) (m : Int) = true) : rsK gs k (m + 1) = rsK gs k m ++ [((k : Int), (m : Int))] := by rw [rsK, rsIn, if_pos h, rsK, List.append_assoc]
theorem rsIn_f {gs : List Int} {k m : Nat} (h : rgB gs (k : Int) (m : Int) = false) : rsK gs k (m + 1) = rsK gs k m := by rw [rsK, rsIn, if_neg (by simp [h]), rsK]
theorem rsIn_length (gs : List Int) (k m : Nat) : (rsIn gs k m).length ≤ m := by
  induction m with
  | zero => simp [rsIn]
  | succ m ih => rw [rsIn]; split <;> (try simp) <;> omega
theorem rsAll_length (gs : List Int) (h : gs.length ≤ 24) (k : Nat) : (rsAll gs k).length ≤ 24 * k := by
  induction k with
  | zero => simp [rsAll]
  | succ k ih =>
    rw [rsAll, List.length_append]
    have := rsIn_length gs k gs.length
    omega
theorem rsK_length (gs : List Int) (h : gs.length ≤ 24) (k m : Nat) : (rsK gs k m).length ≤ 24 * k + m := by
  have := rsAll_length gs h k
  have := rsIn_length gs k m
  rw [rsK, List.length_append]
  omega
theorem own_litP {base : Nat} (w : World) (H : Nat) (hH : w.heap.size = H) (hb : base ≤ H) (t : TypeId) : (w.alloc (.cells #[] t)).ownsRow base t 2 (.slice (some ⟨H, 0, none⟩) 0 0) 0 [] := by
  subst hH
  exact World.ownsRow_lit w #[] 0 hb (Nat.zero_le _) rfl

set_option maxHeartbeats 2000000 in
theorem RightStates_i1 (v : Value) (gs : List Int) (w : World) (hv : Sl w v gs) (hs : whB gs = false) :
    Calls Tryd.prog 39 #[.agg #[v]] w fun e w' => ∃ v', e = .returned (.tuple #[v', .int .i64 1]) ∧ w'.ownsRow w.heap.size 28 2 v' ([] : List (Int × Int)).length (P64 ([] : List (Int × Int))) ∧ Below w.heap.size w w' := by
  have H1 := Lib.hid (fun w' (hb : Below w.heap.size w w') => ValidCountWheel_i v gs w' (hv.below hb))
  have HB := Lib.hid hs
  clear hv hs
  go_enter Tryd.func39, Tryd.ntmps39
  go_wp2_with fail
  refine (H1.out _ (by go_grown)).mono ?_
  rintro e w1 ⟨rfl, hb⟩
  rw [HB.out]
  go_wp2
  go_ret2
  exact ⟨_, rfl, World.ownsRow_nil _ _ _ _, Below.trans (by go_grown) (hb.mono (by simp))⟩
set_option maxRecDepth 100000 in
set_option maxHeartbeats 8000000 in
theorem RightStates_i0 (v : Value) (gs : List Int) (w : World) (hv : Sl w v gs) (hs : whB gs = true) :
    Calls Tryd.prog 39 #[.agg #[v]] w fun e w' => ∃ v', e = .returned (.tuple #[v', .int .i64 0]) ∧ w'.ownsRow w.heap.size 28 2 v' (rsAll gs 12).length (P64 (rsAll gs 12)) ∧ Below w.heap.size w w' := by
  have H1 := Lib.hid (fun w' (hb : Below w.heap.size w w') => ValidCountWheel_i v gs w' (hv.below hb))
  have H2 := Lib.hid (fun (k m : Nat) w' (hb : Below w.heap.size w w') (hk : k < 12) (hm : m < gs.length) => isRight_any v gs (k : Int) (m : Int) w' (hv.below hb) hs (hsB_iff.2 ⟨⟨by omega, by omega⟩, by omega, by omega⟩))
  obtain ⟨_, h1, hl⟩ := whB_iff.1 hs
  have HLK := Lib.hid (rsK_length gs hl)
  obtain ⟨A, c, rfl, hac, hac', _⟩ := hv.open_
  have HB := Lib.hid hs
  clear hv hs
  go_enter Tryd.func39, Tryd.ntmps39
  have HK0 := Lib.hid (bx1 w 31 #[.slice A gs.length c])
  go_wp2_with fail
  refine (H1.out _ (by go_grown)).mono ?_
  rintro e w1 ⟨rfl, hb1⟩
  rw [HB.out]
  have J0 := Lib.hid (HK0.out.below hb1)
  have z0 := J0.out.lt
  have B1 : Below w.heap.size w w1 := Below.trans (by go_grown) (hb1.mono (by simp))
  clear hb1 HK0
  go_wp2_with fail
  go_loopw [4, 5] (fun x i wr => ∃ k : Nat, k ≤ 12 ∧ i = .int .i64 k ∧ wr.ownsRow (w.heap.size + 1) 28 2 x (rsAll gs k).length (P64 (rsAll gs k)) ∧ Blk wr w.heap.size 31 #[.slice A gs.length c] ∧ Below w.heap.size w wr) (fun _ i _ => 12 - (intOf i).toNat)
  case atStart => exact ⟨0, by omega, by go_num, World.ownsRow_nil _ _ _ _, J0.out, by go_grown⟩
  case round =>
    obtain ⟨k, hk, rfl, hown, b0, hB⟩ := hrel
    obtain ⟨wo, rfl⟩ : ∃ wo : World, wo = wr := ⟨_, rfl⟩
    have q0 := b0.cell 0 rfl
    have P0 := Lib.hid b0
    have HO := Lib.hid hown
    clear b0 hown
    by_cases hlk : k < 12
    · have i1 : (k : Int) < 12 := by omega
      go_wp2_with fail
      go_loopw [4, 18] (fun x i wr => ∃ m : Nat, m ≤ gs.length ∧ i = .int .i64 m ∧ wr.ownsRow (w.heap.size + 1) 28 2 x (rsK gs k m).length (P64 (rsK gs k m)) ∧ Blk wr w.heap.size 31 #[.slice A gs.length c] ∧ Below w.heap.size w wr) (fun _ i _ => gs.length - (intOf i).toNat)
      case atStart => exact ⟨0, Nat.zero_le _, by go_num, by rw [rsK_zero]; exact HO.out, P0.out, hB⟩
      case round =>
        obtain ⟨m, hm, rfl, hown, b0, hB2⟩ := hrel
        obtain ⟨Ax, cx, rfl⟩ := own_form hown
        have q0 := b0.cell 0 rfl
        have G0 := Lib.hid b0
        have HO2 := Lib.hid hown
        have zz := b0.lt
        clear b0 hown
        by_cases hlm : m < gs.length
        · have i2 : (m : Int) < (gs.length : Int) := by omega
          have i3 : (0 : Int) ≤ (m : Int) := by omega
          go_wp2_with fail
          refine (H2.out k m _ (by go_grown) hlk hlm).mono ?_
          rintro e w3 ⟨rfl, hb3⟩
          have B3 : Below w.heap.size w w3 := Below.trans (by go_grown) (hb3.mono (by simp; omega))
          have D3 : Below wr.heap.size wr w3 := Below.trans (by go_grown) (hb3.mono (by simp))
          have b3 := (Blk.new wr 28 #[.int .i64 (k : Int), .int .i64 (m : Int)]).below hb3
          have q1 := b3.cell 0 rfl
          have q2 := b3.cell 1 rfl
          have HO3 := Lib.hid (own_below HO2.out D3)
          have G3 := Lib.hid (G0.out.below D3)
          have hsz : w.heap.size + 1 ≤ w3.heap.size := G3.out.lt
          have hll : (rsK gs k m).length ≤ 134217728 := by have := HLK.out k m; omega
          clear hb3 b3 D3 HO2 G0
          cases hf : rgB gs (k : Int) (m : Int) with
          | true =>
            have HE := Lib.hid (rsIn_t hf)
            clear hf
            go_wp2_with (at_builtin; refine wpList_appHandState rfl _ _ rfl (w.heap.size + 1) _ (rsK gs k m) rfl HO3.out _ _ _ rfl rfl hll hsz ?_; intro v4 w4 hown4 hb4 hg4; have O4 := Lib.hid hown4; have G4 := Lib.hid (G3.out.belowB hb4 (by omega)); have B4 := Below.trans B3 (hb4.mono (by omega)); clear hown4 hb4 hg4)
            go_roundw
            case rel => exact ⟨m + 1, by omega, by go_num, by rw [HE.out]; exact O4.out, G4.out, B4⟩
            case measure => simp [intOf]; omega
          | false =>
            have HE := Lib.hid (rsIn_f hf)
            clear hf
            go_wp2_with fail
            go_roundw
            case rel => exact ⟨m + 1, by omega, by go_num, by rw [HE.out]; exact HO3.out, G3.out, B3⟩
            case measure => simp [intOf]; omega
        · obtain rfl : m = gs.length := by omega
          go_wp2
          go_roundw
          case rel => exact ⟨k + 1, by omega, by go_num, by rw [← rsK_end]; exact HO2.out, G0.out, hB2⟩
          case measure => simp [intOf]; omega
    · obtain rfl : k = 12 := by omega
      go_wp2
      go_ret2
      exact ⟨_, rfl, own_mono HO.out (by omega), hB⟩
set_option maxHeartbeats 2000000 in
theorem RightStates_s1 (v : Value) (gs : List Int) (w : World) (hv : Sl w v gs) (hs : whB gs = false) :
    Calls Tryd.prog 40 #[.agg #[v]] w fun e w' => ∃ v', e = .returned (.tuple #[v', .int .i64 1]) ∧ w'.ownsRow w.heap.size 28 2 v' ([] : List (Int × Int)).length (P64 ([] : List (Int × Int))) ∧ Below w.heap.size w w' := by
  have H1 := Lib.hid (fun w' (hb : Below w.heap.size w w') => l20Ok_s v gs w' (hv.below hb))
  have HB := Lib.hid hs
  clear hv hs
  go_enter Tryd.func40, Tryd.ntmps40
  go_wp2_with fail
  refine (H1.out _ (by go_grown)).mono ?_
  rintro e w1 ⟨rfl, hb⟩
  rw [HB.out]
  go_wp2
  go_ret2
  exact ⟨_, rfl, World.ownsRow_nil _ _ _ _, Below.trans (by go_grown) (hb.mono (by simp))⟩
set_option maxRecDepth 100000 in
set_option maxHeartbeats 8000000 in
theorem RightStates_s0 (v : Value) (gs : List Int) (w : World) (hv : Sl w v gs) (hs : whB gs = true) :
    Calls Tryd.prog 40 #[.agg #[v]] w fun e w' => ∃ v', e = .returned (.tuple #[v', .int .i64 0]) ∧ w'.ownsRow w.heap.size 28 2 v' (rsAll gs 12).length (P64 (rsAll gs 12)) ∧ Below w.heap.size w w' := by
  have H1 := Lib.hid (fun w' (hb : Below w.heap.size w w') => l20Ok_s v gs w' (hv.below hb))
  have H2 := Lib.hid (fun (k m : Nat) w' (hb : Below w.heap.size w w') (hk : k < 12) (hm : m < gs.length) => l23Right_any v gs (k : Int) (m : Int) w' (hv.below hb) hs (hsB_iff.2 ⟨⟨by omega, by omega⟩, by omega, by omega⟩))
  obtain ⟨_, h1, hl⟩ := whB_iff.1 hs
  have HLK := Lib.hid (rsK_length gs hl)
  obtain ⟨A, c, rfl, hac, hac', _⟩ := hv.open_
  have HB := Lib.hid hs
  clear hv hs
  go_enter Tryd.func40, Tryd.ntmps40
  have HK0 := Lib.hid (bx1 w 31 #[.slice A gs.length c])
  go_wp2_with fail
  refine (H1.out _ (by go_grown)).mono ?_
  rintro e w1 ⟨rfl, hb1⟩
  rw [HB.out]
  have J0 := Lib.hid (HK0.out.below hb1)
  have z0 := J0.out.lt
  have B1 : Below w.heap.size w w1 := Below.trans (by go_grown) (hb1.mono (by simp))
  clear hb1 HK0
  go_wp2_with fail
  go_loopw [4, 5] (fun x i wr => ∃ k : Nat, k ≤ 12 ∧ i = .int .i64 k ∧ wr.ownsRow (w.heap.size + 1) 28 2 x (rsAll gs k).length (P64 (rsAll gs k)) ∧ Blk wr w.heap.size 31 #[.slice A gs.length c] ∧ Below w.heap.size w wr) (fun _ i _ => 12 - (intOf i).toNat)
  case atStart => exact ⟨0, by omega, by go_num, own_litP w1 w1.heap.size rfl z0 _, J0.out.alloc _, by go_grown⟩
  case round =>
    obtain ⟨k, hk, rfl, hown, b0, hB⟩ := hrel
    obtain ⟨wo, rfl⟩ : ∃ wo : World, wo = wr := ⟨_, rfl⟩
    have q0 := b0.cell 0 rfl
    have P0 := Lib.hid b0
    have HO := Lib.hid hown
    clear b0 hown
    by_cases hlk : k < 12
    · have i1 : (k : Int) < 12 := by omega
      go_wp2_with fail
      go_loopw [4, 6] (fun x i wr => ∃ m : Nat, m ≤ gs.length ∧ i = .int .i64 m ∧ wr.ownsRow (w.heap.size + 1) 28 2 x (rsK gs k m).length (P64 (rsK gs k m)) ∧ Blk wr w.heap.size 31 #[.slice A gs.length c] ∧ Below w.heap.size w wr) (fun _ i _ => gs.length - (intOf i).toNat)
      case atStart => exact ⟨0, Nat.zero_le _, by go_num, by rw [rsK_zero]; exact HO.out, P0.out, hB⟩
      case round =>
        obtain ⟨m, hm, rfl, hown, b0, hB2⟩ := hrel
        obtain ⟨Ax, cx, rfl⟩ := own_form hown
        have q0 := b0.cell 0 rfl
        have G0 := Lib.hid b0
        have HO2 := Lib.hid hown
        have zz := b0.lt
        clear b0 hown
        by_cases hlm : m < gs.length
        · have i2 : (m : Int) < (gs.length : Int) := by omega
          have i3 : (0 : Int) ≤ (m : Int) := by omega
          go_wp2_with fail
          refine (H2.out k m _ (by go_grown) hlk hlm).mono ?_
          rintro e w3 ⟨rfl, hb3⟩
          have B3 : Below w.heap.size w w3 := Below.trans (by go_grown) (hb3.mono (by simp; omega))
          have D3 : Below wr.heap.size wr w3 := Below.trans (by go_grown) (hb3.mono (by simp))
          have b3 := (Blk.new wr 28 #[.int .i64 (k : Int), .int .i64 (m : Int)]).below hb3
          have q1 := b3.cell 0 rfl
          have q2 := b3.cell 1 rfl
          have HO3 := Lib.hid (own_below HO2.out D3)
          have G3 := Lib.hid (G0.out.below D3)
          have hsz : w.heap.size + 1 ≤ w3.heap.size := G3.out.lt
          have hll : (rsK gs k m).length ≤ 134217728 := by have := HLK.out k m; omega
          clear hb3 b3 D3 HO2 G0
          cases hf : rgB gs (k : Int) (m : Int) with
          | true =>
            have HE := Lib.hid (rsIn_t hf)
            clear hf
            go_wp2_with (at_builtin; refine wpList_appHandState rfl _ _ rfl (w.heap.size + 1) _ (rsK gs k m) rfl HO3.out _ _ _ rfl rfl hll hsz ?_; intro v4 w4 hown4 hb4 hg4; have O4 := Lib.hid hown4; have G4 := Lib.hid (G3.out.belowB hb4 (by omega)); have B4 := Below.trans B3 (hb4.mono (by omega)); clear hown4 hb4 hg4)
            go_roundw
            case rel => exact ⟨m + 1, by omega, by go_num, by rw [HE.out]; exact O4.out, G4.out, B4⟩
            case measure => simp [intOf]; omega
          | false =>
            have HE := Lib.hid (rsIn_f hf)
            clear hf
            go_wp2_with fail
            go_roundw
            case rel => exact ⟨m + 1, by omega, by go_num, by rw [HE.out]; exact HO3.out, G3.out, B3⟩
            case measure => simp [intOf]; omega
        · obtain rfl : m = gs.length := by omega
          go_wp2
          go_roundw
          case rel => exact ⟨k + 1, by omega, by go_num, by rw [← rsK_end]; exact HO2.out, G0.out, hB2⟩
          case measure => simp [intOf]; omega
    · obtain rfl : k = 12 := by omega
      go_wp2
      go_ret2
      exact ⟨_, rfl, own_mono HO.out (by omega), hB⟩
theorem RightStates_both (gs : List Int) : ∃ (rl : List (Int × Int)) (rc : Int), rl.length ≤ 3000 ∧
    (∀ v w, Sl w v gs → Calls Tryd.prog 39 #[.agg #[v]] w fun e w' => ∃ v', e = .returned (.tuple #[v', .int .i64 rc]) ∧ w'.ownsRow w.heap.size 28 2 v' rl.length (P64 rl) ∧ Below w.heap.size w w') ∧
    (∀ v w, Sl w v gs → Calls Tryd.prog 40 #[.agg #[v]] w fun e w' => ∃ v', e = .returned (.tuple #[v', .int .i64 rc]) ∧ w'.ownsRow w.heap.size 28 2 v' rl.length (P64 rl) ∧ Below w.heap.size w w') := by
  cases hs : whB gs with
  | false => exact ⟨[], _, Nat.zero_le _, fun v w hv => RightStates_i1 v gs w hv hs, fun v w hv => RightStates_s1 v gs w hv hs⟩
  | true => exact ⟨rsAll gs 12, _, by have := rsAll_length gs (whB_iff.1 hs).2.2 12; omega, fun v w hv => RightStates_i0 v gs w hv hs, fun v w hv => RightStates_s0 v gs w hv hs⟩
end Go.Proofs.YtfddibdncniekaaDoor
