/- Hands: the program's wayTo with each of its three closures. (Written by gen_hnp.py.) -/
import Derived.Test.YtfddibdncniekaaDoorHnW
import Derived.Test.YtfddibdncniekaaDoorHnR
import Derived.Test.YtfddibdncniekaaDoorHnY
namespace Go.Proofs.YtfddibdncniekaaDoor
open Go.RowKit
attribute [local go_sem ↓] Go.wp_at_zero Go.wp_at_succ

/-- The first path to a state of a kind, and the number. -/
def wtR (P : Int × Int → Bool) (gs : List Int) (h q : Int) (s : ByteArray) : ByteArray × Int := if knB s = true then fwW P (waysOf gs h q s) else (⟨#[]⟩, 7)
theorem wtR_t {P : Int × Int → Bool} {gs : List Int} {h q : Int} {s : ByteArray} (hk : knB s = true) : wtR P gs h q s = fwW P (waysOf gs h q s) := if_pos hk
theorem wtR_f {P : Int × Int → Bool} {gs : List Int} {h q : Int} {s : ByteArray} (hk : knB s = false) : wtR P gs h q s = (⟨#[]⟩, 7) := if_neg (by simp [hk])
theorem ret_si {t t' : ByteArray} {c c' : Int} (h : t = t') (h2 : c = c') : (Ending.returned (.tuple #[.string t, .int .i64 c]) : Ending) = .returned (.tuple #[.string t', .int .i64 c']) := by rw [h, h2]
def sameP (t x : Int × Int) : Bool := decide (x = t)

set_option maxHeartbeats 2000000 in
theorem closure_eq (t x : Int × Int) (B : Nat) (w : World) (h0 : w.cell? ⟨B, 0, none⟩ = some (.int .i64 t.1)) (h1 : w.cell? ⟨B, 1, none⟩ = some (.int .i64 t.2)) (hB : B < w.heap.size) :
    Calls Tryd.prog 60 #[.agg #[.int .i64 x.1, .int .i64 x.2], .pointer (some ⟨B, 0, none⟩)] w fun e w' => e = .returned (.bool (sameP t x)) ∧ Below w.heap.size w w' := by
  obtain ⟨t1, t2⟩ := t
  obtain ⟨x1, x2⟩ := x
  go_enter Tryd.func60, Tryd.ntmps60
  by_cases e1 : x1 = t1
  · subst e1
    by_cases e2 : x2 = t2
    · subst e2
      go_wp2_with fail
      go_ret
      exact ⟨ret_b (by simp [sameP]), by go_grown⟩
    · have n2 : (x2 == t2) = false := by simp [e2]
      go_wp2_with fail
      go_ret
      exact ⟨ret_b (by simp [sameP, e2]), by go_grown⟩
  · have n1 : (x1 == t1) = false := by simp [e1]
    go_wp2_with fail
    go_ret
    exact ⟨ret_b (by simp [sameP, e1]), by go_grown⟩
set_option maxHeartbeats 2000000 in
theorem closure_right (v : Value) (gs : List Int) (x : Int × Int) (B : Nat) (w : World) (hv : Sl w v gs) (hw : whB gs = true) (hx : hsB gs x.1 x.2 = true) (h0 : w.cell? ⟨B, 0, none⟩ = some v) (hB : B < w.heap.size) :
    Calls Tryd.prog 62 #[.agg #[.int .i64 x.1, .int .i64 x.2], .pointer (some ⟨B, 0, none⟩)] w fun e w' => e = .returned (.bool (rgB gs x.1 x.2)) ∧ Below w.heap.size w w' := by
  have H1 := Lib.hid (fun w' (hb : Below w.heap.size w w') => isRight_any v gs x.1 x.2 w' (hv.below hb) hw hx)
  clear hv hw hx
  go_enter Tryd.func62, Tryd.ntmps62
  go_wp2_with fail
  refine (H1.out _ (by go_grown)).mono ?_
  rintro e w1 ⟨rfl, hb⟩
  go_wp2
  go_ret
  exact ⟨rfl, Below.trans (by go_grown) (hb.mono (by simp))⟩
set_option maxHeartbeats 2000000 in
theorem closure_wrong (v : Value) (gs : List Int) (x : Int × Int) (B : Nat) (w : World) (hv : Sl w v gs) (hw : whB gs = true) (hx : hsB gs x.1 x.2 = true) (h0 : w.cell? ⟨B, 0, none⟩ = some v) (hB : B < w.heap.size) :
    Calls Tryd.prog 64 #[.agg #[.int .i64 x.1, .int .i64 x.2], .pointer (some ⟨B, 0, none⟩)] w fun e w' => e = .returned (.bool (!rgB gs x.1 x.2)) ∧ Below w.heap.size w w' := by
  have H1 := Lib.hid (fun w' (hb : Below w.heap.size w w') => isRight_any v gs x.1 x.2 w' (hv.below hb) hw hx)
  clear hv hw hx
  go_enter Tryd.func64, Tryd.ntmps64
  go_wp2_with fail
  refine (H1.out _ (by go_grown)).mono ?_
  rintro e w1 ⟨rfl, hb⟩
  go_wp2
  go_ret
  exact ⟨rfl, Below.trans (by go_grown) (hb.mono (by simp))⟩

set_option maxRecDepth 100000 in
set_option maxHeartbeats 8000000 in
theorem wayTo_eq (P : Int × Int → Bool) (v : Value) (gs : List Int) (h q : Int) (s : ByteArray) (B : Nat) (w : World) (hv : Sl w v gs) (hw : whB gs = true) (hx : hsB gs h q = true) (hsz : s.size ≤ 9223372036854775807)
    (hc : ∀ (x : Int × Int) w', Below w.heap.size w w' → hsB gs x.1 x.2 = true → Calls Tryd.prog 60 #[.agg #[.int .i64 x.1, .int .i64 x.2], .pointer (some ⟨B, 0, none⟩)] w' fun e w'' => e = .returned (.bool (P x)) ∧ Below w'.heap.size w' w'') :
    Calls Tryd.prog 59 #[.agg #[v], .agg #[.int .i64 h, .int .i64 q], .string s, .func (.func 60) #[] #[.pointer (some ⟨B, 0, none⟩)]] w fun e w' => e = .returned (.tuple #[.string (wtR P gs h q s).1, .int .i64 (wtR P gs h q s).2]) ∧ Below w.heap.size w w' := by
  obtain ⟨-, h1, h24⟩ := whB_iff.1 hw
  have HA := Lib.hid (fun w' => areActions_any s w' hsz)
  have HW := Lib.hid (fun w' (hb : Below w.heap.size w w') => waysFrom_any v gs h q s w' (hv.below hb) hw hx)
  have HC := Lib.hid hc
  have HT := Lib.hid (waysOf_ok s h1 hx).1
  cases hk : knB s
  · have HR := Lib.hid (wtR_f (P := P) (gs := gs) (h := h) (q := q) hk)
    have HK := Lib.hid hk
    clear hv hw hx hc hk
    go_enter Tryd.func59, Tryd.ntmps59
    go_wp2_with fail
    refine (HA.out _).mono ?_
    rintro e w1 ⟨rfl, hb1⟩
    rw [HK.out]
    go_wp2
    go_ret2
    exact ⟨ret_si (by rw [HR.out]) (by rw [HR.out]), Below.trans (by go_grown) (hb1.mono (by simp; omega))⟩
  · have HR := Lib.hid (wtR_t (P := P) (gs := gs) (h := h) (q := q) hk)
    have HK := Lib.hid hk
    clear hv hw hx hc hk
    go_enter Tryd.func59, Tryd.ntmps59
    obtain ⟨k0, k1⟩ := bx2 w 31 28 #[v] #[.int .i64 h, .int .i64 q]
    have HK0 := Lib.hid k0
    have HK1 := Lib.hid k1
    clear k0 k1
    go_wp2_with fail
    refine (HA.out _).mono ?_
    rintro e w1 ⟨rfl, hb1⟩
    rw [HK.out]
    have J0 := HK0.out.below hb1
    have J1 := HK1.out.below hb1
    have q0 := J0.cell 0 rfl
    have q1 := J1.cell 0 rfl
    have q2 := J1.cell 1 rfl
    have B1 : Below w.heap.size w w1 := Below.trans (by go_grown) (hb1.mono (by simp; omega))
    have HB1 := Lib.hid B1
    obtain ⟨L, hL⟩ : ∃ L, L = waysOf gs h q s := ⟨_, rfl⟩
    rw [← hL] at HT HW HR
    clear hb1 HK0 HK1 J0 J1 B1 hL
    go_wp2_with fail
    refine (HW.out _ HB1.out).mono ?_
    rintro e w2 ⟨vw, rfl, how, hb2⟩
    have HB2 := Lib.hid (HB1.out.trans (hb2.mono HB1.out.size))
    obtain ⟨bw, cw, rfl, hbw1, hbw2, hcw, hcx, hcells⟩ := own_way how HT.out.pos
    have hcz : (L.length : Int) ≤ (cw : Int) := by omega
    simp only [maxLen] at hcx
    clear how hb2 q0 q1 q2
    go_wp2_with fail
    go_loopw [20] (fun a wr => ∃ i : Nat, i ≤ L.length ∧ a = .int .i64 (i : Int) ∧ Hid (NoW P L i) ∧ Hid (Below w2.heap.size w2 wr)) (fun a _ => L.length - (intOf a).toNat)
    case atStart => exact ⟨0, by omega, by go_num, Lib.hid (NoW.zero _ _), Lib.hid (Below.refl _ _)⟩
    case round =>
      obtain ⟨i, hi, rfl, hno, hB⟩ := hrel
      obtain ⟨wi, rfl⟩ : ∃ y : World, y = wr := ⟨_, rfl⟩
      by_cases hlt : i < L.length
      · have i1 : (i : Int) < (L.length : Int) := by omega
        obtain ⟨c0, c1, c2⟩ := hcells.out i hlt
        obtain ⟨x, hxe⟩ : ∃ x, x = pw L i := ⟨_, rfl⟩
        rw [← hxe] at c0 c1 c2
        have q0 := (hB.out.cell (p := ⟨bw, i * 3, none⟩) hbw2).trans c0
        have q1 := (hB.out.cell (p := ⟨bw, i * 3 + 1, none⟩) hbw2).trans c1
        have q2 := (hB.out.cell (p := ⟨bw, i * 3 + 2, none⟩) hbw2).trans c2
        have HXV := Lib.hid (show hsB gs x.1.1 x.1.2 = true from HT.out.valid x (by rw [hxe]; exact pw_mem hlt))
        have HXe := Lib.hid hxe
        have HBi := Lib.hid (HB2.out.trans (hB.out.mono HB2.out.size))
        have k3 := Lib.hid (Blk.new wi 93 #[.int .i64 x.1.1, .int .i64 x.1.2, .string x.2])
        clear c0 c1 c2 hxe
        cases hP : P x.1
        · have HP := Lib.hid hP
          have HN := Lib.hid (hno.out.succ (by rw [← HXe.out]; exact hP))
          clear hP
          go_wp2_with (go_at_call 60; refine (HC.out x.1 _ (grown_again HBi.out (by go_grown)) HXV.out).mono ?_; rintro e w3 ⟨rfl, hb3⟩; rw [HP.out]; have k4 := k3.out.below hb3; have r2 := k4.cell 2 rfl; have z3 := k4.lt; have HB3 := Lib.hid (Below.trans (show Below wi.heap.size wi (wi.alloc (.cells #[.int .i64 x.1.1, .int .i64 x.1.2, .string x.2] 93)) by go_grown) (hb3.mono (by simp))); clear hb3 k4)
          go_roundw
          case rel => exact ⟨i + 1, by omega, by go_num, HN, Lib.hid (hB.out.trans (HB3.out.mono hB.out.size))⟩
          case measure => simp [intOf]; omega
        · have HP := Lib.hid hP
          have HE := Lib.hid (fwW_hit hlt hno.out (by rw [← HXe.out]; exact hP))
          clear hP
          go_wp2_with (go_at_call 60; refine (HC.out x.1 _ (grown_again HBi.out (by go_grown)) HXV.out).mono ?_; rintro e w3 ⟨rfl, hb3⟩; rw [HP.out]; have k4 := k3.out.below hb3; have r2 := k4.cell 2 rfl; have z3 := k4.lt; have HB3 := Lib.hid (Below.trans (show Below wi.heap.size wi (wi.alloc (.cells #[.int .i64 x.1.1, .int .i64 x.1.2, .string x.2] 93)) by go_grown) (hb3.mono (by simp))); clear hb3 k4)
          go_ret2
          exact ⟨ret_si (by rw [HR.out, HE.out, ← HXe.out]) (by rw [HR.out, HE.out]), HBi.out.trans (HB3.out.mono HBi.out.size)⟩
      · obtain rfl : i = L.length := by omega
        have HE := Lib.hid (fwW_none hno.out)
        go_wp2_with fail
        go_ret2
        exact ⟨ret_si (by rw [HR.out, HE.out]) (by rw [HR.out, HE.out]), HB2.out.trans (hB.out.mono HB2.out.size)⟩

set_option maxRecDepth 100000 in
set_option maxHeartbeats 8000000 in
theorem wayTo_right (P : Int × Int → Bool) (v : Value) (gs : List Int) (h q : Int) (s : ByteArray) (B : Nat) (w : World) (hv : Sl w v gs) (hw : whB gs = true) (hx : hsB gs h q = true) (hsz : s.size ≤ 9223372036854775807)
    (hc : ∀ (x : Int × Int) w', Below w.heap.size w w' → hsB gs x.1 x.2 = true → Calls Tryd.prog 62 #[.agg #[.int .i64 x.1, .int .i64 x.2], .pointer (some ⟨B, 0, none⟩)] w' fun e w'' => e = .returned (.bool (P x)) ∧ Below w'.heap.size w' w'') :
    Calls Tryd.prog 59 #[.agg #[v], .agg #[.int .i64 h, .int .i64 q], .string s, .func (.func 62) #[] #[.pointer (some ⟨B, 0, none⟩)]] w fun e w' => e = .returned (.tuple #[.string (wtR P gs h q s).1, .int .i64 (wtR P gs h q s).2]) ∧ Below w.heap.size w w' := by
  obtain ⟨-, h1, h24⟩ := whB_iff.1 hw
  have HA := Lib.hid (fun w' => areActions_any s w' hsz)
  have HW := Lib.hid (fun w' (hb : Below w.heap.size w w') => waysFrom_any v gs h q s w' (hv.below hb) hw hx)
  have HC := Lib.hid hc
  have HT := Lib.hid (waysOf_ok s h1 hx).1
  cases hk : knB s
  · have HR := Lib.hid (wtR_f (P := P) (gs := gs) (h := h) (q := q) hk)
    have HK := Lib.hid hk
    clear hv hw hx hc hk
    go_enter Tryd.func59, Tryd.ntmps59
    go_wp2_with fail
    refine (HA.out _).mono ?_
    rintro e w1 ⟨rfl, hb1⟩
    rw [HK.out]
    go_wp2
    go_ret2
    exact ⟨ret_si (by rw [HR.out]) (by rw [HR.out]), Below.trans (by go_grown) (hb1.mono (by simp; omega))⟩
  · have HR := Lib.hid (wtR_t (P := P) (gs := gs) (h := h) (q := q) hk)
    have HK := Lib.hid hk
    clear hv hw hx hc hk
    go_enter Tryd.func59, Tryd.ntmps59
    obtain ⟨k0, k1⟩ := bx2 w 31 28 #[v] #[.int .i64 h, .int .i64 q]
    have HK0 := Lib.hid k0
    have HK1 := Lib.hid k1
    clear k0 k1
    go_wp2_with fail
    refine (HA.out _).mono ?_
    rintro e w1 ⟨rfl, hb1⟩
    rw [HK.out]
    have J0 := HK0.out.below hb1
    have J1 := HK1.out.below hb1
    have q0 := J0.cell 0 rfl
    have q1 := J1.cell 0 rfl
    have q2 := J1.cell 1 rfl
    have B1 : Below w.heap.size w w1 := Below.trans (by go_grown) (hb1.mono (by simp; omega))
    have HB1 := Lib.hid B1
    obtain ⟨L, hL⟩ : ∃ L, L = waysOf gs h q s := ⟨_, rfl⟩
    rw [← hL] at HT HW HR
    clear hb1 HK0 HK1 J0 J1 B1 hL
    go_wp2_with fail
    refine (HW.out _ HB1.out).mono ?_
    rintro e w2 ⟨vw, rfl, how, hb2⟩
    have HB2 := Lib.hid (HB1.out.trans (hb2.mono HB1.out.size))
    obtain ⟨bw, cw, rfl, hbw1, hbw2, hcw, hcx, hcells⟩ := own_way how HT.out.pos
    have hcz : (L.length : Int) ≤ (cw : Int) := by omega
    simp only [maxLen] at hcx
    clear how hb2 q0 q1 q2
    go_wp2_with fail
    go_loopw [20] (fun a wr => ∃ i : Nat, i ≤ L.length ∧ a = .int .i64 (i : Int) ∧ Hid (NoW P L i) ∧ Hid (Below w2.heap.size w2 wr)) (fun a _ => L.length - (intOf a).toNat)
    case atStart => exact ⟨0, by omega, by go_num, Lib.hid (NoW.zero _ _), Lib.hid (Below.refl _ _)⟩
    case round =>
      obtain ⟨i, hi, rfl, hno, hB⟩ := hrel
      obtain ⟨wi, rfl⟩ : ∃ y : World, y = wr := ⟨_, rfl⟩
      by_cases hlt : i < L.length
      · have i1 : (i : Int) < (L.length : Int) := by omega
        obtain ⟨c0, c1, c2⟩ := hcells.out i hlt
        obtain ⟨x, hxe⟩ : ∃ x, x = pw L i := ⟨_, rfl⟩
        rw [← hxe] at c0 c1 c2
        have q0 := (hB.out.cell (p := ⟨bw, i * 3, none⟩) hbw2).trans c0
        have q1 := (hB.out.cell (p := ⟨bw, i * 3 + 1, none⟩) hbw2).trans c1
        have q2 := (hB.out.cell (p := ⟨bw, i * 3 + 2, none⟩) hbw2).trans c2
        have HXV := Lib.hid (show hsB gs x.1.1 x.1.2 = true from HT.out.valid x (by rw [hxe]; exact pw_mem hlt))
        have HXe := Lib.hid hxe
        have HBi := Lib.hid (HB2.out.trans (hB.out.mono HB2.out.size))
        have k3 := Lib.hid (Blk.new wi 93 #[.int .i64 x.1.1, .int .i64 x.1.2, .string x.2])
        clear c0 c1 c2 hxe
        cases hP : P x.1
        · have HP := Lib.hid hP
          have HN := Lib.hid (hno.out.succ (by rw [← HXe.out]; exact hP))
          clear hP
          go_wp2_with (go_at_call 62; refine (HC.out x.1 _ (grown_again HBi.out (by go_grown)) HXV.out).mono ?_; rintro e w3 ⟨rfl, hb3⟩; rw [HP.out]; have k4 := k3.out.below hb3; have r2 := k4.cell 2 rfl; have z3 := k4.lt; have HB3 := Lib.hid (Below.trans (show Below wi.heap.size wi (wi.alloc (.cells #[.int .i64 x.1.1, .int .i64 x.1.2, .string x.2] 93)) by go_grown) (hb3.mono (by simp))); clear hb3 k4)
          go_roundw
          case rel => exact ⟨i + 1, by omega, by go_num, HN, Lib.hid (hB.out.trans (HB3.out.mono hB.out.size))⟩
          case measure => simp [intOf]; omega
        · have HP := Lib.hid hP
          have HE := Lib.hid (fwW_hit hlt hno.out (by rw [← HXe.out]; exact hP))
          clear hP
          go_wp2_with (go_at_call 62; refine (HC.out x.1 _ (grown_again HBi.out (by go_grown)) HXV.out).mono ?_; rintro e w3 ⟨rfl, hb3⟩; rw [HP.out]; have k4 := k3.out.below hb3; have r2 := k4.cell 2 rfl; have z3 := k4.lt; have HB3 := Lib.hid (Below.trans (show Below wi.heap.size wi (wi.alloc (.cells #[.int .i64 x.1.1, .int .i64 x.1.2, .string x.2] 93)) by go_grown) (hb3.mono (by simp))); clear hb3 k4)
          go_ret2
          exact ⟨ret_si (by rw [HR.out, HE.out, ← HXe.out]) (by rw [HR.out, HE.out]), HBi.out.trans (HB3.out.mono HBi.out.size)⟩
      · obtain rfl : i = L.length := by omega
        have HE := Lib.hid (fwW_none hno.out)
        go_wp2_with fail
        go_ret2
        exact ⟨ret_si (by rw [HR.out, HE.out]) (by rw [HR.out, HE.out]), HB2.out.trans (hB.out.mono HB2.out.size)⟩

set_option maxRecDepth 100000 in
set_option maxHeartbeats 8000000 in
theorem wayTo_wrong (P : Int × Int → Bool) (v : Value) (gs : List Int) (h q : Int) (s : ByteArray) (B : Nat) (w : World) (hv : Sl w v gs) (hw : whB gs = true) (hx : hsB gs h q = true) (hsz : s.size ≤ 9223372036854775807)
    (hc : ∀ (x : Int × Int) w', Below w.heap.size w w' → hsB gs x.1 x.2 = true → Calls Tryd.prog 64 #[.agg #[.int .i64 x.1, .int .i64 x.2], .pointer (some ⟨B, 0, none⟩)] w' fun e w'' => e = .returned (.bool (P x)) ∧ Below w'.heap.size w' w'') :
    Calls Tryd.prog 59 #[.agg #[v], .agg #[.int .i64 h, .int .i64 q], .string s, .func (.func 64) #[] #[.pointer (some ⟨B, 0, none⟩)]] w fun e w' => e = .returned (.tuple #[.string (wtR P gs h q s).1, .int .i64 (wtR P gs h q s).2]) ∧ Below w.heap.size w w' := by
  obtain ⟨-, h1, h24⟩ := whB_iff.1 hw
  have HA := Lib.hid (fun w' => areActions_any s w' hsz)
  have HW := Lib.hid (fun w' (hb : Below w.heap.size w w') => waysFrom_any v gs h q s w' (hv.below hb) hw hx)
  have HC := Lib.hid hc
  have HT := Lib.hid (waysOf_ok s h1 hx).1
  cases hk : knB s
  · have HR := Lib.hid (wtR_f (P := P) (gs := gs) (h := h) (q := q) hk)
    have HK := Lib.hid hk
    clear hv hw hx hc hk
    go_enter Tryd.func59, Tryd.ntmps59
    go_wp2_with fail
    refine (HA.out _).mono ?_
    rintro e w1 ⟨rfl, hb1⟩
    rw [HK.out]
    go_wp2
    go_ret2
    exact ⟨ret_si (by rw [HR.out]) (by rw [HR.out]), Below.trans (by go_grown) (hb1.mono (by simp; omega))⟩
  · have HR := Lib.hid (wtR_t (P := P) (gs := gs) (h := h) (q := q) hk)
    have HK := Lib.hid hk
    clear hv hw hx hc hk
    go_enter Tryd.func59, Tryd.ntmps59
    obtain ⟨k0, k1⟩ := bx2 w 31 28 #[v] #[.int .i64 h, .int .i64 q]
    have HK0 := Lib.hid k0
    have HK1 := Lib.hid k1
    clear k0 k1
    go_wp2_with fail
    refine (HA.out _).mono ?_
    rintro e w1 ⟨rfl, hb1⟩
    rw [HK.out]
    have J0 := HK0.out.below hb1
    have J1 := HK1.out.below hb1
    have q0 := J0.cell 0 rfl
    have q1 := J1.cell 0 rfl
    have q2 := J1.cell 1 rfl
    have B1 : Below w.heap.size w w1 := Below.trans (by go_grown) (hb1.mono (by simp; omega))
    have HB1 := Lib.hid B1
    obtain ⟨L, hL⟩ : ∃ L, L = waysOf gs h q s := ⟨_, rfl⟩
    rw [← hL] at HT HW HR
    clear hb1 HK0 HK1 J0 J1 B1 hL
    go_wp2_with fail
    refine (HW.out _ HB1.out).mono ?_
    rintro e w2 ⟨vw, rfl, how, hb2⟩
    have HB2 := Lib.hid (HB1.out.trans (hb2.mono HB1.out.size))
    obtain ⟨bw, cw, rfl, hbw1, hbw2, hcw, hcx, hcells⟩ := own_way how HT.out.pos
    have hcz : (L.length : Int) ≤ (cw : Int) := by omega
    simp only [maxLen] at hcx
    clear how hb2 q0 q1 q2
    go_wp2_with fail
    go_loopw [20] (fun a wr => ∃ i : Nat, i ≤ L.length ∧ a = .int .i64 (i : Int) ∧ Hid (NoW P L i) ∧ Hid (Below w2.heap.size w2 wr)) (fun a _ => L.length - (intOf a).toNat)
    case atStart => exact ⟨0, by omega, by go_num, Lib.hid (NoW.zero _ _), Lib.hid (Below.refl _ _)⟩
    case round =>
      obtain ⟨i, hi, rfl, hno, hB⟩ := hrel
      obtain ⟨wi, rfl⟩ : ∃ y : World, y = wr := ⟨_, rfl⟩
      by_cases hlt : i < L.length
      · have i1 : (i : Int) < (L.length : Int) := by omega
        obtain ⟨c0, c1, c2⟩ := hcells.out i hlt
        obtain ⟨x, hxe⟩ : ∃ x, x = pw L i := ⟨_, rfl⟩
        rw [← hxe] at c0 c1 c2
        have q0 := (hB.out.cell (p := ⟨bw, i * 3, none⟩) hbw2).trans c0
        have q1 := (hB.out.cell (p := ⟨bw, i * 3 + 1, none⟩) hbw2).trans c1
        have q2 := (hB.out.cell (p := ⟨bw, i * 3 + 2, none⟩) hbw2).trans c2
        have HXV := Lib.hid (show hsB gs x.1.1 x.1.2 = true from HT.out.valid x (by rw [hxe]; exact pw_mem hlt))
        have HXe := Lib.hid hxe
        have HBi := Lib.hid (HB2.out.trans (hB.out.mono HB2.out.size))
        have k3 := Lib.hid (Blk.new wi 93 #[.int .i64 x.1.1, .int .i64 x.1.2, .string x.2])
        clear c0 c1 c2 hxe
        cases hP : P x.1
        · have HP := Lib.hid hP
          have HN := Lib.hid (hno.out.succ (by rw [← HXe.out]; exact hP))
          clear hP
          go_wp2_with (go_at_call 64; refine (HC.out x.1 _ (grown_again HBi.out (by go_grown)) HXV.out).mono ?_; rintro e w3 ⟨rfl, hb3⟩; rw [HP.out]; have k4 := k3.out.below hb3; have r2 := k4.cell 2 rfl; have z3 := k4.lt; have HB3 := Lib.hid (Below.trans (show Below wi.heap.size wi (wi.alloc (.cells #[.int .i64 x.1.1, .int .i64 x.1.2, .string x.2] 93)) by go_grown) (hb3.mono (by simp))); clear hb3 k4)
          go_roundw
          case rel => exact ⟨i + 1, by omega, by go_num, HN, Lib.hid (hB.out.trans (HB3.out.mono hB.out.size))⟩
          case measure => simp [intOf]; omega
        · have HP := Lib.hid hP
          have HE := Lib.hid (fwW_hit hlt hno.out (by rw [← HXe.out]; exact hP))
          clear hP
          go_wp2_with (go_at_call 64; refine (HC.out x.1 _ (grown_again HBi.out (by go_grown)) HXV.out).mono ?_; rintro e w3 ⟨rfl, hb3⟩; rw [HP.out]; have k4 := k3.out.below hb3; have r2 := k4.cell 2 rfl; have z3 := k4.lt; have HB3 := Lib.hid (Below.trans (show Below wi.heap.size wi (wi.alloc (.cells #[.int .i64 x.1.1, .int .i64 x.1.2, .string x.2] 93)) by go_grown) (hb3.mono (by simp))); clear hb3 k4)
          go_ret2
          exact ⟨ret_si (by rw [HR.out, HE.out, ← HXe.out]) (by rw [HR.out, HE.out]), HBi.out.trans (HB3.out.mono HBi.out.size)⟩
      · obtain rfl : i = L.length := by omega
        have HE := Lib.hid (fwW_none hno.out)
        go_wp2_with fail
        go_ret2
        exact ⟨ret_si (by rw [HR.out, HE.out]) (by rw [HR.out, HE.out]), HB2.out.trans (hB.out.mono HB2.out.size)⟩
end Go.Proofs.YtfddibdncniekaaDoor
