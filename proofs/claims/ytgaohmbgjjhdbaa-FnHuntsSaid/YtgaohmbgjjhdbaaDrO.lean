/- Chimes: rows drawn (l22DrawRows, DrawTrueRows), and DrawPlainHunt. -/
import Derived.Test.YtgaohmbgjjhdbaaDrN
namespace Go.Proofs.Ytgaohmbgjjhdbaa
open Go.RowKit
attribute [local go_sem ↓] Go.wp_at_zero Go.wp_at_succ

theorem grown_above {a b c : World} {g B : Nat} (h : a.grownBy b (some g)) (hb : Below B b c) (hB : a.heap.size ≤ B) : a.grownBy c (some g) :=
  ⟨hb.os.trans h.os, hb.tape.trans h.tape, hb.output.trans h.output, Nat.le_trans h.size hb.size, fun i hi hn => (hb.block i (Nat.lt_of_lt_of_le hi hB)).trans (h.block i hi hn)⟩
theorem Src.aboveB {W w w' : World} {g n B : Nat} {v : Value} {bs : List Int} (h : Src W w g v bs n) (hb : Below B w w') (hB : W.heap.size ≤ B) (hg : g < B) : Src W w' g v bs n := by
  obtain ⟨h1, h2, h3, a, s, ha, hs, hk⟩ := h
  exact ⟨h1, h2, ⟨hb.os.trans h3.os, hb.tape.trans h3.tape, hb.output.trans h3.output, Nat.le_trans h3.size hb.size, fun i hi => (hb.block i (Nat.lt_of_lt_of_le hi hB)).trans (h3.block i hi)⟩, a, s, ha, hs, hk.belowB hb hg⟩
theorem sl_tail1 {w : World} {g n c : Nat} {xs : List Int} (h : Sl w (.slice (some ⟨g, 0, none⟩) n c) xs) (hn : 1 ≤ n) : Sl w (.slice (some ⟨g, 1, none⟩) (n - 1) (c - 1)) (xs.drop 1) := by
  obtain ⟨A, c', e, h1, h2, h3⟩ := h
  injection e with e1 e2 e3
  subst e1 e2 e3
  refine ⟨_, _, by rw [List.length_drop], by rw [List.length_drop]; omega, by omega, fun h0 => ?_⟩
  rw [I64_length, List.length_drop] at h0
  obtain ⟨b, o, e, hb, hc⟩ := h3 (by rw [I64_length]; omega)
  injection e with e
  injection e with e1 e2 _
  subst e1 e2
  refine ⟨g, 1, rfl, hb, fun j hj => ?_⟩
  rw [I64_length, List.length_drop] at hj
  have := hc (j + 1) (by rw [I64_length]; omega)
  rw [Nat.zero_add] at this
  rw [show 1 + j = j + 1 by omega, this]
  simp [I64]
theorem small_rl {n : Nat} {L : Nat → List Int} (h1 : n ≤ 13) (h2 : ∀ i, i < n → (L i).length ≤ 6) : (rl n L).length ≤ 13 ∧ ∀ i, i < (rl n L).length → (rx (rl n L) i).length ≤ 6 := by
  refine ⟨by rw [rl_length]; exact h1, fun i hi => ?_⟩
  rw [rl_length] at hi
  rw [rl_at L hi]
  exact h2 i hi
set_option maxRecDepth 100000 in
set_option maxHeartbeats 8000000 in
theorem l22DrawRows_any (W w : World) (g : Nat) (vb : Value) (bs : List Int) (k : Nat) (h : Src W w g vb bs k) (hk : k ≤ 10000) :
    Calls Try.prog 78 #[.pointer (some ⟨g, 0, none⟩)] w (RowPost W w g vb bs (k + 12)) := by
  have HP : Hid (∀ e w', (∃ (v : Value) (R : List (List Int)), e = .returned v ∧ RdR w' v R ∧ (R.length ≤ 13 ∧ ∀ i, i < R.length → (rx R i).length ≤ 6) ∧ Src W w' g vb bs (k + 12) ∧ w.grownBy w' (some g)) → RowPost W w g vb bs (k + 12) e w') := fun e w' h => h
  have hg := h.lt
  have hWg := h.2.1
  have HS := Lib.hid h
  obtain ⟨i0, hi, hz0, hz1, hz2⟩ := info_parts rows_info
  clear h
  go_enter Try.func78, Try.ntmps78
  go_wp2_with fail
  refine (pick_any W _ g vb bs k HS.out (by omega) _ (by omega)).mono ?_
  rintro e w1 ⟨x, ⟨x0, x1⟩, rfl, hs, hg1⟩
  obtain ⟨N, hN⟩ : ∃ N : Nat, (2 : Int) + x = (N : Int) := ⟨(2 + x).toNat, by omega⟩
  have hN1 : 2 ≤ N := by omega
  have hN2 : N ≤ 5 := by omega
  have ex : IntKind.i64.wrap (2 + x) = (N : Int) := by rw [hN]; exact IntWalk.i64_in _ (by omega)
  have ex2 : IntKind.i64.wrap (N : Int) = (N : Int) := IntWalk.i64_in _ (by omega)
  have S1 := Lib.hid hs
  have G1 := Lib.hid hg1
  have z1 := hg1.size
  clear hs hg1 HS x0 x1
  go_wp2_with fail
  refine (l22Hunt_any N _ hN1 (by omega)).mono ?_
  rintro e w2 ⟨v, rfl, hR, hb2⟩
  have S2 := Lib.hid (S1.out.below hb2)
  have G2 := Lib.hid (grown_trans G1.out (grown_of_below hb2 _))
  have z2 := hb2.size
  obtain ⟨go, c, _, rfl, _⟩ := hR.at_ (i := 0) (by omega)
  have R2 := Lib.hid hR
  have e2N : ((2 * N : Nat) : Int) = 2 * (N : Int) := by omega
  clear hb2 hR S1 G1
  go_wp2_with fail
  refine (pick_any W _ g vb bs _ S2.out (by omega) _ (by omega)).mono ?_
  rintro e w3 ⟨y, ⟨y0, y1⟩, rfl, hs, hg3⟩
  obtain ⟨K, hK⟩ : ∃ K : Nat, 1 + y = (K : Int) := ⟨(1 + y).toNat, by omega⟩
  have hK1 : 1 ≤ K := by omega
  have hK2 : K ≤ 2 * N := by omega
  have R3 := Lib.hid ((R2.out.drawn hg3 (by omega)).take hK2)
  have hcap := (rows_cap (R2.out.drawn hg3 (by omega))).1
  have S3 := Lib.hid hs
  have G3 := Lib.hid (grown_trans G2.out hg3)
  have z3 := hg3.size
  have ey : IntKind.i64.wrap (1 + y) = (K : Int) := by rw [hK]; exact IntWalk.i64_in _ (by omega)
  have iK : (K : Int) ≤ (c : Int) := by omega
  clear hs hg3 R2 S2 G2 y0 y1
  go_wp2_with fail
  refine (pick_any W _ g vb bs _ S3.out (by omega) _ (by omega)).mono ?_
  rintro e w4 ⟨t, ⟨t0, t1⟩, rfl, hs, hg4⟩
  obtain ⟨T, rfl⟩ := Int.eq_ofNat_of_zero_le t0
  have hT : T < K := by omega
  have R4 := Lib.hid (R3.out.drawn hg4 (by omega))
  have S4 := Lib.hid hs
  have G4 := Lib.hid (grown_trans G3.out hg4)
  have z4 := hg4.size
  clear hs hg4 R3 S3 G3 t0 t1
  go_wp2_with fail
  refine (pick_any W _ g vb bs _ S4.out (by omega) _ (by omega)).mono ?_
  rintro e w5 ⟨q, ⟨q0, q1⟩, rfl, hs, hg5⟩
  have R5 := Lib.hid (R4.out.drawn hg5 (by omega))
  have S5 := Lib.hid hs
  have G5 := Lib.hid (grown_trans G4.out hg5)
  have z5 := hg5.size
  have iT : (T : Int) < (K : Int) := by omega
  clear hs hg5 R4 S4 G4
  have HL : Hid (∀ i, (hr N i).length = N) := fun i => hr_length N i
  rcases (show q = 0 ∨ q = 1 ∨ q = 2 ∨ q = 3 ∨ q = 4 ∨ q = 5 ∨ 6 ≤ q by omega) with rfl | rfl | rfl | rfl | rfl | rfl | hq
  · -- a row again, behind
    obtain ⟨_, _, u, e1, _, hgz, hu, hou, hap⟩ := R5.out.at_ (i := 0) (by omega)
    injection e1 with e1 e2 e3
    injection e1 with e1
    injection e1 with e1 _ _
    subst e1
    clear e2 e3
    obtain ⟨gu, cu, rfl, _⟩ := hou.form (by rw [hr_length]; omega)
    have hSL := Lib.hid (Sl.of_own hou)
    have HOW := Lib.hid (l00Own_any gu cu (hr N 0) w5 hSL.out (by rw [hr_length]; omega))
    have iK1 : (0 : Int) < (K : Int) := by omega
    clear hou hap
    go_wp2_with fail
    refine HOW.out.mono ?_
    rintro e w6 ⟨v6, rfl, ho6, hb6⟩
    obtain ⟨vs, hvo, hvv, hvd⟩ := R5.out.below hb6
    have HVO := Lib.hid hvo
    have HVV := Lib.hid hvv
    have HU6 := Lib.hid ho6
    have hgo := (hvo.lt go rfl).2
    have z6 := hb6.size
    have HAP : Hid (Ap v6 (.slice (some ⟨go, 0, none⟩) K c)) := fun b h1 h2 => by
      have := (ho6.lt b h1).1
      have h3 : b = go := by simp only [Value.ownBlock] at h2; injection h2 with h2; exact h2.symm
      have := hgz
      omega
    obtain ⟨A6, C6, rfl⟩ := own_form ho6
    have HB6 := Lib.hid hb6
    have hbz : w1.heap.size ≤ w6.heap.size := by omega
    clear hvo hvv hvd ho6 hb6 HOW
    go_wp2_with (at_builtin; refine wpList_app rfl _ _ _ rfl Try.underlying22 hi hz0 hz1 hz2 rfl (by decide) (by decide) w1.heap.size _ K vs rfl HVO.out [.slice A6 (hr N 0).length C6] rfl (by intro x hx; simp at hx; subst hx; rfl) rfl (by omega) (by omega) ?_; intro v7 w7 ho7 hb7 hg7 hn7; have HR7 := Lib.hid (rows_app HVO.out HVV.out (Sl.of_own HU6.out) HAP.out ho7 hg7); have HB7 := Lib.hid hb7; clear ho7 hb7 hg7 hn7)
    go_ret
    exact HP.out _ _ ⟨_, _, rfl, HR7.out, small_rl (by omega) (fun i hi => by split <;> rw [HL.out] <;> omega), ((S5.out.below HB6.out).aboveB HB7.out (by omega) (by omega)).mono (by omega), grown_above (grown_trans G5.out (grown_of_below HB6.out _)) HB7.out (by omega)⟩
  · -- a row in another's place
    go_wp2_with fail
    refine (pick_any W _ g vb bs _ S5.out (by omega) _ (by omega)).mono ?_
    rintro e w6 ⟨y2, ⟨y0, y1⟩, rfl, hs, hg6⟩
    obtain ⟨Y, rfl⟩ := Int.eq_ofNat_of_zero_le y0
    have hY : Y < K := by omega
    have iY : (Y : Int) < (K : Int) := by omega
    have R6 := Lib.hid (R5.out.drawn hg6 (by omega))
    have S6 := Lib.hid hs
    have G6 := Lib.hid (grown_trans G5.out hg6)
    have z6 := hg6.size
    clear hs hg6 R5 S5 G5 y0 y1
    obtain ⟨_, _, u, e1, _, hgz, hu, hou, hap⟩ := R6.out.at_ hY
    injection e1 with e1 e2 e3
    injection e1 with e1
    injection e1 with e1 _ _
    subst e1
    clear e2 e3
    obtain ⟨gu, cu, rfl, _⟩ := hou.form (by rw [hr_length]; omega)
    have hSL := Lib.hid (Sl.of_own hou)
    have HOW := Lib.hid (l00Own_any gu cu (hr N Y) w6 hSL.out (by rw [hr_length]; omega))
    have gob := (R6.out.at_ hY)
    clear hou hap gob
    go_wp2_with fail
    refine HOW.out.mono ?_
    rintro e w7 ⟨v7, rfl, ho7, hb7⟩
    have HNE : Hid (v7.ownBlock ≠ some go) := fun e => by have := (ho7.lt go e).1; omega
    obtain ⟨A7, C7, rfl⟩ := own_form ho7
    have H7 := Lib.hid ho7
    have HB7 := Lib.hid hb7
    have z7 := hb7.size
    have hc7 : ∃ uo, w7.cell? ⟨go, T, none⟩ = some uo := by
      obtain ⟨_, _, u, e1, _, _, hu, _⟩ := (R6.out.below hb7).at_ hT
      injection e1 with e1 _ _
      injection e1 with e1
      injection e1 with e1 _ _
      subst e1
      exact ⟨u, hu⟩
    obtain ⟨uo, hc7⟩ := hc7
    have hf7 : w7.frozen? ⟨go, T, none⟩ = false := by
      obtain ⟨vs, hvo, _⟩ := R6.out.below hb7
      exact hvo.frozenAt T
    have hz7 : go < w7.heap.size := by omega
    have hgo : w1.heap.size ≤ go := by
      obtain ⟨vs, hvo, _⟩ := R6.out
      exact (hvo.lt go rfl).1
    clear ho7 hb7 HOW
    go_wp2_with fail
    go_ret
    exact HP.out _ _ ⟨_, _, rfl, rows_set (at_ := T) (R6.out.below HB7.out) (Sl.of_own H7.out) HNE.out, small_rl (by omega) (fun i hi => by split <;> rw [HL.out] <;> omega), ((S6.out.below HB7.out).setB (by simp; omega) (by simp; omega) _).mono (by omega), grown_setB (grown_trans G6.out (grown_of_below HB7.out _)) (by simp; omega) _⟩
  · -- a row without its first bell
    obtain ⟨_, _, u, e1, _, hgz, hu, hou, hap⟩ := R5.out.at_ hT
    injection e1 with e1 e2 e3
    injection e1 with e1
    injection e1 with e1 _ _
    subst e1
    clear e2 e3
    obtain ⟨gu, cu, rfl, _⟩ := hou.form (by rw [hr_length]; omega)
    have hne : gu ≠ go := fun e => hap gu rfl (by rw [e]; rfl)
    have hSL := sl_tail1 (Sl.of_own hou) (by rw [hr_length]; omega)
    have hcu : N ≤ cu := by
      obtain ⟨_, _, e, h1, _⟩ := SlC.of_own hou
      injection e with _ _ e3
      rw [hr_length] at h1
      omega
    rw [hr_length] at hu hSL
    have HSL := Lib.hid hSL
    have HNE : Hid ((Value.slice (some ⟨gu, 1, none⟩) (N - 1) (cu - 1)).ownBlock ≠ some go) := fun e => hne (by simpa [Value.ownBlock] using e)
    have hf5 : w5.frozen? ⟨go, T, none⟩ = false := by
      obtain ⟨vs, hvo, _⟩ := R5.out
      exact hvo.frozenAt T
    have hgo : w1.heap.size ≤ go := by
      obtain ⟨vs, hvo, _⟩ := R5.out
      exact (hvo.lt go rfl).1
    have i7 : (N : Int) ≤ (cu : Int) := by omega
    have i8 : (1 : Int) ≤ (N : Int) := by omega
    have e7 : ((N : Int) - 1).toNat = N - 1 := by omega
    have e8 : ((cu : Int) - 1).toNat = cu - 1 := by omega
    clear hou hap hSL hne
    go_wp2_with fail
    go_ret
    exact HP.out _ _ ⟨_, _, rfl, rows_set (at_ := T) R5.out HSL.out HNE.out, small_rl (by omega) (fun i hi => by have := HL.out i; have := HL.out T; split <;> (first | rw [List.length_drop] | skip) <;> omega), (S5.out.setB (by simp; omega) (by simp; omega) _).mono (by omega), grown_setB G5.out (by simp; omega) _⟩
  · -- a row with another first bell
    obtain ⟨_, _, u, e1, _, hgz, hu, hou, hap⟩ := R5.out.at_ hT
    injection e1 with e1 e2 e3
    injection e1 with e1
    injection e1 with e1 _ _
    subst e1
    clear e2 e3
    obtain ⟨gu, cu, rfl, _⟩ := hou.form (by rw [hr_length]; omega)
    have hSL := Lib.hid (Sl.of_own hou)
    have HOW := Lib.hid (l00Own_any gu cu (hr N T) w5 hSL.out (by rw [hr_length]; omega))
    clear hou hap
    go_wp2_with fail
    refine HOW.out.mono ?_
    rintro e w6 ⟨v6, rfl, ho6, hb6⟩
    obtain ⟨g6, c6, rfl, _⟩ := ho6.form (by rw [hr_length]; omega)
    have R6 := Lib.hid (R5.out.below hb6)
    have S6 := Lib.hid (S5.out.below hb6)
    have G6 := Lib.hid (grown_trans G5.out (grown_of_below hb6 _))
    have g60 := (ho6.lt g6 rfl).1
    have g61 := (ho6.lt g6 rfl).2
    have z6 := hb6.size
    rw [hr_length] at ho6
    have H6 := Lib.hid ho6
    have eN1 : IntKind.i64.wrap ((N : Int) + 1) = (N : Int) + 1 := IntWalk.i64_in _ (by omega)
    have HB6 := Lib.hid hb6
    clear ho6 hb6 HOW S5 G5
    have hlr : Hid ((hr N T).length = N) := HL.out T
    have e6 : (Value.slice (some ⟨g6, 0, none⟩) (hr N T).length c6) = .slice (some ⟨g6, 0, none⟩) N c6 := by rw [hr_length]
    rw [e6]
    clear e6
    go_wp2_with fail
    refine (pick_any W _ g vb bs _ S6.out (by omega) _ (by omega)).mono ?_
    rintro e w7 ⟨y2, ⟨y0, y1⟩, rfl, hs, hg7⟩
    have hgg : g ≠ g6 := by omega
    have H7 := Lib.hid (H6.out.kept hg7 (Or.inr (by simp [Value.ownBlock]; omega)))
    have R7 := Lib.hid (R6.out.drawn hg7 (by omega))
    have S7 := Lib.hid hs
    have G7 := Lib.hid (grown_trans G6.out hg7)
    have z7 := hg7.size
    have i0N : (0 : Int) < (N : Int) := by omega
    have hc0 : ∃ uo, w7.cell? ⟨g6, 0, none⟩ = some uo := ⟨_, (H7.out.cellAt 0 (by omega)).trans (I64_get (by rw [hlr.out]; omega))⟩
    obtain ⟨uo, hc0⟩ := hc0
    have hf0 := H7.out.frozenAt 0
    have hz0' : g6 < w7.heap.size := by omega
    have hcT : ∃ ut, w7.cell? ⟨go, T, none⟩ = some ut := by
      obtain ⟨_, _, u, e1, _, _, hu, _⟩ := R7.out.at_ hT
      injection e1 with e1 _ _
      injection e1 with e1
      injection e1 with e1 _ _
      subst e1
      exact ⟨u, hu⟩
    obtain ⟨ut, hcT⟩ := hcT
    have hfT : w7.frozen? ⟨go, T, none⟩ = false := by
      obtain ⟨vs, hvo, _⟩ := R7.out
      exact hvo.frozenAt T
    have hgo : w1.heap.size ≤ go := by
      obtain ⟨vs, hvo, _⟩ := R7.out
      exact (hvo.lt go rfl).1
    have hzT : go < w7.heap.size := by omega
    have hn6 : g6 ≠ go := by omega
    have hn6' : go ≠ g6 := by omega
    obtain ⟨hst, hgst⟩ := H7.out.stored 0 (.int .i64 y2)
    rw [I64_set2] at hst
    have HX : Hid (Sl (w7.setCell ⟨g6, 0, none⟩ (.int .i64 y2)) (.slice (some ⟨g6, 0, none⟩) N c6) ((hr N T).set 0 y2)) := by
      have e : N = ((hr N T).set 0 y2).length := by rw [List.length_set, hlr.out]
      have h := hst
      show Sl _ _ _
      have h2 : (w7.setCell ⟨g6, 0, none⟩ (.int .i64 y2)).ownsRow w5.heap.size 2 1 (.slice (some ⟨g6, 0, none⟩) N c6) ((hr N T).set 0 y2).length (I64 ((hr N T).set 0 y2)) := by rw [← e]; exact h
      exact Sl.of_own h2
    have R8 : Hid (RowsAt (w7.setCell ⟨g6, 0, none⟩ (.int .i64 y2)) w1.heap.size (.slice (some ⟨go, 0, none⟩) K c) K (hr N)) :=
      R5.out.drawn (grown_setB (grown_trans (grown_of_below HB6.out _) hg7) (by simp; omega) _) (by omega)
    have HNE : Hid ((Value.slice (some ⟨g6, 0, none⟩) N c6).ownBlock ≠ some go) := fun e => hn6 (by simpa [Value.ownBlock] using e)
    clear hs hg7 R5 R6 S6 G6 y0 y1 hst hgst
    go_wp2_with fail
    go_ret
    exact HP.out _ _ ⟨_, _, rfl, rows_set (at_ := T) R8.out HX.out HNE.out, small_rl (by omega) (fun i hi => by have := HL.out i; have := HL.out T; split <;> (first | rw [List.length_set] | skip) <;> omega), ((S7.out.setB (by simp; omega) (by simp; omega) _).setB (by simp; omega) (by simp; omega) _).mono (by omega), grown_setB (grown_setB G7.out (by simp; omega) _) (by simp; omega) _⟩
  · -- a row of three bells, behind
    obtain ⟨vs, hvo, hvv, hvd⟩ := R5.out
    have HVO := Lib.hid hvo
    have HVV := Lib.hid hvv
    have hgo := (hvo.lt go rfl).2
    obtain ⟨wa, hwa⟩ : ∃ wa, wa = w5.alloc (.cells #[.int .i64 2, .int .i64 0, .int .i64 1] 2) := ⟨_, rfl⟩
    have ha : Below w5.heap.size w5 wa := by subst hwa; go_grown
    have HA := Lib.hid ha
    have za : wa.heap.size = w5.heap.size + 1 := by subst hwa; simp
    have H3 : Hid (wa.ownsRow w5.heap.size 2 1 (.slice (some ⟨w5.heap.size, 0, none⟩) 3 3) ([2, 0, 1] : List Int).length (I64 [2, 0, 1])) := by
      subst hwa
      exact World.ownsRow_lit (base := w5.heap.size) (e := 2) (size := 1) w5 #[.int .i64 2, .int .i64 0, .int .i64 1] 3 (Nat.le_refl _) (by decide) rfl
    have HVOA := Lib.hid (own_below hvo ha)
    have HVVA : Hid (∀ i, i < K → ∃ u : Value, vs[i]? = some u ∧ wa.ownsRow w1.heap.size 2 1 u (hr N i).length (I64 (hr N i)) ∧ Ap u (.slice (some ⟨go, 0, none⟩) K c)) := fun i hi => let ⟨u, k1, k2, k3⟩ := hvv i hi; ⟨u, k1, own_below k2 ha, k3⟩
    have HAP : Hid (Ap (Value.slice (some ⟨w5.heap.size, 0, none⟩) 3 3) (.slice (some ⟨go, 0, none⟩) K c)) := fun b h1 h2 => by
      simp only [Value.ownBlock] at h1 h2
      injection h1 with h1
      injection h2 with h2
      omega
    have HWA := Lib.hid hwa
    have hbz : w1.heap.size ≤ wa.heap.size := by omega
    clear hvo hvv hvd ha hwa
    go_wp2_with (at_builtin; rw [← HWA.out]; refine wpList_app rfl _ _ _ rfl Try.underlying22 hi hz0 hz1 hz2 rfl (by decide) (by decide) w1.heap.size _ K vs rfl HVOA.out [.slice (some ⟨w5.heap.size, 0, none⟩) 3 3] rfl (by intro x hx; simp at hx; subst hx; rfl) (by rw [za]; rfl) (by omega) (by omega) ?_; intro v7 w7 ho7 hb7 hg7 hn7; have HR7 := Lib.hid (rows_app HVOA.out HVVA.out (Sl.of_own H3.out) HAP.out ho7 hg7); have HB7 := Lib.hid hb7; clear ho7 hb7 hg7 hn7)
    go_ret
    exact HP.out _ _ ⟨_, _, rfl, HR7.out, small_rl (by omega) (fun i hi => by have := HL.out i; split <;> (first | simp | skip) <;> omega), ((S5.out.below HA.out).aboveB HB7.out (by omega) (by omega)).mono (by omega), grown_above (grown_trans G5.out (grown_of_below HA.out _)) HB7.out (by omega)⟩
  · -- the rows of six bells
    go_wp2_with fail
    refine (l22Hunt_any 6 _ (by decide) (by decide)).mono ?_
    rintro e w6 ⟨v6, rfl, hR6, hb6⟩
    obtain ⟨A6, C6, rfl, _⟩ := hR6.form
    have HR6 := Lib.hid (rows_rd hR6)
    have HB6 := Lib.hid hb6
    clear hR6 hb6
    go_wp2_with fail
    go_ret
    exact HP.out _ _ ⟨_, _, rfl, HR6.out, small_rl (by omega) (fun i hi => by rw [hr_length]; omega), (S5.out.below HB6.out).mono (by omega), grown_trans G5.out (grown_of_below HB6.out _)⟩
  · have q2 : ¬ q = 0 := by omega
    have q3 : ¬ q = 1 := by omega
    have q4 : ¬ q = 2 := by omega
    have q5 : ¬ q = 3 := by omega
    have q6 : ¬ q = 4 := by omega
    have q7 : ¬ q = 5 := by omega
    go_wp2_with fail
    go_ret
    exact HP.out _ _ ⟨_, _, rfl, rows_rd R5.out, small_rl (by omega) (fun i hi => by rw [hr_length]; omega), S5.out.mono (by omega), G5.out⟩
/-- Rows that a law draws. -/
def RowsPost (W : World) (e : Ending) (w' : World) : Prop :=
  ∃ (v : Value) (R : List (List Int)), e = .returned v ∧ RdR w' v R ∧ (R.length ≤ 13 ∧ ∀ i, i < R.length → (rx R i).length ≤ 6) ∧ Below W.heap.size W w'
set_option maxRecDepth 100000 in
set_option maxHeartbeats 2000000 in
theorem DrawTrueRows_any (vb : Value) (bs : List Int) (W w : World) (hv : SlB W vb bs) (hb : Below W.heap.size W w) :
    Calls Try.prog 41 #[vb] w (RowsPost w) := by
  have HP : Hid (∀ e w', (∃ (v : Value) (R : List (List Int)), e = .returned v ∧ RdR w' v R ∧ (R.length ≤ 13 ∧ ∀ i, i < R.length → (rx R i).length ≤ 6) ∧ Below w.heap.size w w') → RowsPost w e w') := fun e w' h => h
  have HF := Lib.hid (l00From_c vb bs w w (hv.below hb) (Below.refl _ _) w.heap.size rfl)
  clear hv hb
  go_enter Try.func41, Try.ntmps41
  go_wp2_with fail
  refine HF.out.mono ?_
  rintro e w1 ⟨rfl, hs, hb1⟩
  have S1 := Lib.hid hs
  clear hs hb1 HF
  go_wp2_with fail
  refine (l22DrawRows_any w w1 _ vb bs 0 S1.out (by omega)).mono ?_
  rintro e w2 ⟨v, R, rfl, hR, hsm, hs, _⟩
  obtain ⟨A, c, rfl, _, _⟩ := hR.form
  have HR := Lib.hid hR
  have HSM := Lib.hid hsm
  have HO := Lib.hid hs.old
  clear hR hsm hs S1
  go_wp2
  go_ret
  exact HP.out _ _ ⟨_, R, rfl, HR.out, HSM.out, HO.out⟩
set_option maxRecDepth 100000 in
set_option maxHeartbeats 2000000 in
theorem DrawPlainHunt_any (vb : Value) (bs : List Int) (W w : World) (hv : SlB W vb bs) (hb : Below W.heap.size W w) :
    Calls Try.prog 37 #[vb] w fun e w' => ∃ n : Nat, n ≤ 9 ∧ e = .returned (.int .i64 (n : Int)) ∧ Below w.heap.size w w' := by
  have HF := Lib.hid (l00From_c vb bs w w (hv.below hb) (Below.refl _ _) w.heap.size rfl)
  clear hv hb
  go_enter Try.func37, Try.ntmps37
  go_wp2_with fail
  refine HF.out.mono ?_
  rintro e w1 ⟨rfl, hs, hb1⟩
  have S1 := Lib.hid hs
  clear hs hb1 HF
  go_wp2_with fail
  refine (pick_any w w1 _ vb bs 0 S1.out (by omega) _ (by omega)).mono ?_
  rintro e w2 ⟨x, ⟨x0, x1⟩, rfl, hs, _⟩
  obtain ⟨n, rfl⟩ := Int.eq_ofNat_of_zero_le x0
  have hn : n ≤ 9 := by omega
  have HO := Lib.hid hs.old
  clear hs S1 x0 x1
  go_wp2
  go_ret
  exact ⟨n, hn, rfl, HO.out⟩
end Go.Proofs.Ytgaohmbgjjhdbaa
