/- Hands: the reference's l23Code, l23Path and HandsBetween, PathToRight, PathToWrong; program and reference return the same. -/
import Derived.Test.YtfddibdncniekaaDoorHnQ
namespace Go.Proofs.YtfddibdncniekaaDoor
open Go.RowKit
attribute [local go_sem ↓] Go.wp_at_zero Go.wp_at_succ

/-- The code of a wheel, a state and a text. -/
def cdB (gs : List Int) (h q : Int) (s : ByteArray) : Int := if hnB gs h q = true then (if knB s = true then 0 else 7) else 1
theorem ret_n {a b : Int} (h : a = b) : (Ending.returned (.int .i64 a) : Ending) = .returned (.int .i64 b) := by rw [h]

set_option maxHeartbeats 2000000 in
theorem l23Code_any (v : Value) (gs : List Int) (h q : Int) (s : ByteArray) (w : World) (hv : Sl w v gs) (hsz : s.size ≤ 9223372036854775807) :
    Calls Tryd.prog 77 #[.agg #[v], .agg #[.int .i64 h, .int .i64 q], .string s] w fun e w' => e = .returned (.int .i64 (cdB gs h q s)) ∧ Below w.heap.size w w' := by
  have H1 := Lib.hid (fun w' (hb : Below w.heap.size w w') => l23Ok_s v gs h q w' (hv.below hb))
  have H2 := Lib.hid (fun w' => l23Known_any s w' hsz)
  clear hv
  cases hs : hnB gs h q
  · have HB := Lib.hid hs
    have HR := Lib.hid (show cdB gs h q s = 1 by simp [cdB, hs])
    clear hs
    go_enter Tryd.func77, Tryd.ntmps77
    go_wp2_with fail
    refine (H1.out _ (by go_grown)).mono ?_
    rintro e w1 ⟨rfl, hb1⟩
    rw [HB.out]
    have B1 : Below w.heap.size w w1 := Below.trans (by go_grown) (hb1.mono (by simp; omega))
    clear hb1
    go_wp2_with fail
    go_ret
    exact ⟨ret_n HR.out.symm, B1⟩
  · have HB := Lib.hid hs
    have HR := Lib.hid (show cdB gs h q s = if knB s = true then 0 else 7 by simp [cdB, hs])
    clear hs
    go_enter Tryd.func77, Tryd.ntmps77
    go_wp2_with fail
    refine (H1.out _ (by go_grown)).mono ?_
    rintro e w1 ⟨rfl, hb1⟩
    rw [HB.out]
    have B1 : Below w.heap.size w w1 := Below.trans (by go_grown) (hb1.mono (by simp; omega))
    clear hb1
    go_wp2_with fail
    refine (H2.out _).mono ?_
    rintro e w' ⟨rfl, rfl⟩
    cases hk : knB s
    · have HK := Lib.hid hk
      clear hk
      go_wp2_with fail
      go_ret
      exact ⟨ret_n (by rw [HR.out, HK.out]; rfl), B1⟩
    · have HK := Lib.hid hk
      clear hk
      go_wp2_with fail
      go_ret
      exact ⟨ret_n (by rw [HR.out, HK.out]; rfl), B1⟩

set_option maxRecDepth 100000 in
set_option maxHeartbeats 8000000 in
theorem l23Path_any (r : Bool) (v : Value) (gs : List Int) (h q : Int) (s : ByteArray) (w : World) (hv : Sl w v gs) (hsz : s.size ≤ 9223372036854775807) :
    Calls Tryd.prog 61 #[.agg #[v], .agg #[.int .i64 h, .int .i64 q], .string s, .bool r] w fun e w' => e = .returned (.tuple #[.string (ptR r gs h q s).1, .int .i64 (ptR r gs h q s).2]) ∧ Below w.heap.size w w' := by
  have HCd := Lib.hid (fun w' (hb : Below w.heap.size w w') => l23Code_any v gs h q s w' (hv.below hb) hsz)
  by_cases hbad : cdB gs h q s = 0
  · have hs : hnB gs h q = true := by
      cases e : hnB gs h q
      · simp [cdB, e] at hbad
      · rfl
    have hk : knB s = true := by
      cases e : knB s
      · simp [cdB, hs, e] at hbad
      · rfl
    obtain ⟨hw, hx⟩ := hnB_iff.1 hs
    obtain ⟨-, h1, h24⟩ := whB_iff.1 hw
    have HR := Lib.hid (show ptR r gs h q s = fwW (fun x => rgB gs x.1 x.2 == r) (waysOf gs h q s) by unfold ptR; rw [if_pos hs, wtR_t hk])
    have HS := Lib.hid (fun w' (hb : Below w.heap.size w w') => l23Search_any v gs h q s w' (hv.below hb) hw hx hsz)
    have HG := Lib.hid (fun (x : Int × Int) w' (hb : Below w.heap.size w w') (hx : hsB gs x.1 x.2 = true) => l23Right_any v gs x.1 x.2 w' (hv.below hb) hw hx)
    have HT := Lib.hid (waysOf_ok s h1 hx).1
    have HBad := Lib.hid hbad
    clear hv hw hx hs hk hbad
    go_enter Tryd.func61, Tryd.ntmps61
    obtain ⟨k0, k1⟩ := bx2 w 31 28 #[v] #[.int .i64 h, .int .i64 q]
    have HK0 := Lib.hid k0
    have HK1 := Lib.hid k1
    clear k0 k1
    go_wp2_with fail
    refine (HCd.out _ (by go_grown)).mono ?_
    rintro e w1 ⟨rfl, hb1⟩
    rw [HBad.out]
    have J0 := Lib.hid (HK0.out.below hb1)
    have J1 := HK1.out.below hb1
    have q0 := J0.out.cell 0 rfl
    have q1 := J1.cell 0 rfl
    have q2 := J1.cell 1 rfl
    have B1 : Below w.heap.size w w1 := Below.trans (by go_grown) (hb1.mono (by simp; omega))
    have HB1 := Lib.hid B1
    obtain ⟨L, hL⟩ : ∃ L, L = waysOf gs h q s := ⟨_, rfl⟩
    rw [← hL] at HT HR HS
    clear hb1 HK0 HK1 J1 B1 hL
    go_wp2_with fail
    refine (HS.out _ HB1.out).mono ?_
    rintro e w2 ⟨v1, v2, rfl, ho1, ho2, hb2⟩
    have HB2 := Lib.hid (HB1.out.trans (hb2.mono HB1.out.size))
    have P0 := Lib.hid (J0.out.below hb2)
    obtain ⟨b1, c1, rfl, hb11, hb12, hc11, hc12, hcl1⟩ := own_sts ho1 HT.out.pos
    obtain ⟨b2, c2, rfl, hb21, hb22, hc21, hc22, hcl2⟩ := own_txt ho2 HT.out.pos
    simp only [maxLen] at hc12 hc22
    clear ho1 ho2 hb2 q0 q1 q2 J0
    go_wp2_with fail
    go_loopw [13] (fun a wr => ∃ i : Nat, i ≤ L.length ∧ a = .int .i64 (i : Int) ∧ Hid (NoW (fun x => rgB gs x.1 x.2 == r) L i) ∧ Hid (Below w2.heap.size w2 wr)) (fun a _ => L.length - (intOf a).toNat)
    case atStart => exact ⟨0, by omega, by go_num, Lib.hid (NoW.zero _ _), Lib.hid (Below.refl _ _)⟩
    case round =>
      obtain ⟨i, hi, rfl, hno, hB⟩ := hrel
      obtain ⟨wi, rfl⟩ : ∃ y : World, y = wr := ⟨_, rfl⟩
      by_cases hlt : i < L.length
      · have i1 : (i : Int) < (L.length : Int) := by omega
        obtain ⟨d0, d1⟩ := hcl1.out i hlt
        have d2 := hcl2.out i hlt
        obtain ⟨x, hxe⟩ : ∃ x, x = pw L i := ⟨_, rfl⟩
        rw [← hxe] at d0 d1 d2
        have HXV := Lib.hid (show hsB gs x.1.1 x.1.2 = true from HT.out.valid x (by rw [hxe]; exact pw_mem hlt))
        have HXe := Lib.hid hxe
        have HBi := Lib.hid (HB2.out.trans (hB.out.mono HB2.out.size))
        have zb := (P0.out.below hB.out).lt
        have z12 : b1 < wi.heap.size := Nat.lt_of_lt_of_le hb12 hB.out.size
        have z22 : b2 < wi.heap.size := Nat.lt_of_lt_of_le hb22 hB.out.size
        have HSr := Lib.hid (fun (w' : World) (hw : Below wi.heap.size wi w') => (⟨((P0.out.below hB.out).below hw).cell 0 rfl, (hw.cell (p := ⟨b1, i * 2, none⟩) z12).trans ((hB.out.cell (p := ⟨b1, i * 2, none⟩) hb12).trans d0), (hw.cell (p := ⟨b1, i * 2 + 1, none⟩) z12).trans ((hB.out.cell (p := ⟨b1, i * 2 + 1, none⟩) hb12).trans d1)⟩ : w'.cell? ⟨w.heap.size, 0, none⟩ = some (v) ∧ w'.cell? ⟨b1, i * 2, none⟩ = some (.int .i64 x.1.1) ∧ w'.cell? ⟨b1, i * 2 + 1, none⟩ = some (.int .i64 x.1.2)))
        have D2 := Lib.hid ((hB.out.cell (p := ⟨b2, i, none⟩) hb22).trans d2)
        obtain ⟨q0, q1, q2⟩ := HSr.out wi (Below.refl _ _)
        clear d0 d1 d2 hxe
        obtain ⟨b, hb⟩ : ∃ b, b = rgB gs x.1.1 x.1.2 := ⟨_, rfl⟩
        have HGx := Lib.hid (show ∀ w', Below w.heap.size w w' → Calls Tryd.prog 73 #[.agg #[v], .agg #[.int .i64 x.1.1, .int .i64 x.1.2]] w' fun e w'' => e = .returned (.bool b) ∧ Below w'.heap.size w' w'' from fun w' hb' => by rw [hb]; exact HG.out x.1 w' hb' HXV.out)
        have HBq := Lib.hid hb
        clear hb
        cases hP : (b == r)
        · have HN := Lib.hid (hno.out.succ (by rw [← HXe.out, ← HBq.out]; exact hP))
          have hr : r = !b := by cases b <;> cases r <;> simp_all
          subst hr
          clear hP
          go_wp2_with fail
          go_region_held3 (fun w' => w'.cell? ⟨w.heap.size, 0, none⟩ = some (v) ∧ w'.cell? ⟨b1, i * 2, none⟩ = some (.int .i64 x.1.1) ∧ w'.cell? ⟨b1, i * 2 + 1, none⟩ = some (.int .i64 x.1.2)) (first | assumption | (refine HSr.out _ ?_; go_grown; done) | go_keep)
            ((go_at_call 73; refine (HGx.out _ (grown_again HBi.out (by first | exact Below.refl _ _ | go_grown))).mono ?_; rintro e w3 ⟨rfl, hb3⟩; have B3 : Below wi.heap.size wi w3 := Below.trans (by first | exact Below.refl _ _ | go_grown) (hb3.mono (by first | exact Nat.le_refl _ | (simp [go_sem]; done) | (simp [go_sem]; omega))); have S3 := HSr.out w3 B3; clear hb3))
          go_wp2_with fail
          go_roundw
          case rel => exact ⟨i + 1, by omega, by go_num, HN, Lib.hid (hB.out.trans (B3.mono hB.out.size))⟩
          case measure => simp [intOf]; omega
        · have HE := Lib.hid (fwW_hit (p := fun x => rgB gs x.1 x.2 == r) hlt hno.out (by rw [← HXe.out, ← HBq.out]; exact hP))
          have hr : r = b := by cases b <;> cases r <;> simp_all
          subst hr
          clear hP
          go_wp2_with fail
          go_region_held3 (fun w' => w'.cell? ⟨w.heap.size, 0, none⟩ = some (v) ∧ w'.cell? ⟨b1, i * 2, none⟩ = some (.int .i64 x.1.1) ∧ w'.cell? ⟨b1, i * 2 + 1, none⟩ = some (.int .i64 x.1.2)) (first | assumption | (refine HSr.out _ ?_; go_grown; done) | go_keep)
            ((go_at_call 73; refine (HGx.out _ (grown_again HBi.out (by first | exact Below.refl _ _ | go_grown))).mono ?_; rintro e w3 ⟨rfl, hb3⟩; have B3 : Below wi.heap.size wi w3 := Below.trans (by first | exact Below.refl _ _ | go_grown) (hb3.mono (by first | exact Nat.le_refl _ | (simp [go_sem]; done) | (simp [go_sem]; omega))); have S3 := HSr.out w3 B3; clear hb3))
          have d2 := (B3.cell (p := ⟨b2, i, none⟩) z22).trans D2.out
          go_wp2_with fail
          go_ret2
          exact ⟨ret_si (by rw [HR.out, HE.out, ← HXe.out]) (by rw [HR.out, HE.out]), HBi.out.trans (B3.mono HBi.out.size)⟩
      · obtain rfl : i = L.length := by omega
        have HE := Lib.hid (fwW_none hno.out)
        go_wp2_with fail
        go_ret2
        exact ⟨ret_si (by rw [HR.out, HE.out]) (by rw [HR.out, HE.out]), HB2.out.trans (hB.out.mono HB2.out.size)⟩
  · have HBad := Lib.hid hbad
    have HR : Hid (ptR r gs h q s = (⟨#[]⟩, cdB gs h q s)) := by
      refine Lib.hid ?_
      unfold ptR cdB
      unfold cdB at hbad
      cases hs : hnB gs h q
      · simp
      · cases hk : knB s
        · simp [wtR, hk]
        · simp [hs, hk] at hbad
    obtain ⟨k, hk⟩ : ∃ k, k = cdB gs h q s := ⟨_, rfl⟩
    rw [← hk] at HCd HBad HR
    clear hv hbad hk
    go_enter Tryd.func61, Tryd.ntmps61
    go_wp2_with fail
    refine (HCd.out _ (by go_grown)).mono ?_
    rintro e w1 ⟨rfl, hb1⟩
    have B1 : Below w.heap.size w w1 := Below.trans (by go_grown) (hb1.mono (by simp; omega))
    have hne : (k != 0) = true := by simpa using HBad.out
    have hne2 : ¬ k = 0 := HBad.out
    clear hb1
    go_wp2_with fail
    go_ret2
    exact ⟨ret_si (by rw [HR.out]) (by rw [HR.out]), B1⟩

set_option maxHeartbeats 2000000 in
theorem PathToRight_s (v : Value) (gs : List Int) (h q : Int) (s : ByteArray) (w : World) (hv : Sl w v gs) (hsz : s.size ≤ 9223372036854775807) :
    Calls Tryd.prog 25 #[.agg #[v], .agg #[.int .i64 h, .int .i64 q], .string s] w fun e w' => e = .returned (.tuple #[.string (ptR true gs h q s).1, .int .i64 (ptR true gs h q s).2]) ∧ Below w.heap.size w w' := by
  have HP := Lib.hid (fun w' (hb : Below w.heap.size w w') => l23Path_any true v gs h q s w' (hv.below hb) hsz)
  clear hv
  go_enter Tryd.func25, Tryd.ntmps25
  go_wp2_with fail
  refine (HP.out _ (by go_grown)).mono ?_
  rintro e w1 ⟨rfl, hb1⟩
  have B1 : Below w.heap.size w w1 := Below.trans (by go_grown) (hb1.mono (by simp; omega))
  clear hb1
  go_wp2_with fail
  go_ret2
  exact ⟨rfl, B1⟩
/-- Program and reference return the same. -/
theorem PathToRight_both (gs : List Int) (h q : Int) (s : ByteArray) (hsz : s.size ≤ 9223372036854775807) : ∃ (ra : ByteArray) (rc : Int),
    (∀ v w, Sl w v gs → Calls Tryd.prog 26 #[.agg #[v], .agg #[.int .i64 h, .int .i64 q], .string s] w fun e w' => e = .returned (.tuple #[.string ra, .int .i64 rc]) ∧ Below w.heap.size w w')
    ∧ (∀ v w, Sl w v gs → Calls Tryd.prog 25 #[.agg #[v], .agg #[.int .i64 h, .int .i64 q], .string s] w fun e w' => e = .returned (.tuple #[.string ra, .int .i64 rc]) ∧ Below w.heap.size w w') := by
  refine ⟨_, _, fun v w hv => ?_, fun v w hv => PathToRight_s v gs h q s w hv hsz⟩
  cases hs : hnB gs h q
  · exact PathToRight_i1 v gs h q s w hv hsz hs
  · exact PathToRight_i0 v gs h q s w hv hsz hs

set_option maxHeartbeats 2000000 in
theorem PathToWrong_s (v : Value) (gs : List Int) (h q : Int) (s : ByteArray) (w : World) (hv : Sl w v gs) (hsz : s.size ≤ 9223372036854775807) :
    Calls Tryd.prog 27 #[.agg #[v], .agg #[.int .i64 h, .int .i64 q], .string s] w fun e w' => e = .returned (.tuple #[.string (ptR false gs h q s).1, .int .i64 (ptR false gs h q s).2]) ∧ Below w.heap.size w w' := by
  have HP := Lib.hid (fun w' (hb : Below w.heap.size w w') => l23Path_any false v gs h q s w' (hv.below hb) hsz)
  clear hv
  go_enter Tryd.func27, Tryd.ntmps27
  go_wp2_with fail
  refine (HP.out _ (by go_grown)).mono ?_
  rintro e w1 ⟨rfl, hb1⟩
  have B1 : Below w.heap.size w w1 := Below.trans (by go_grown) (hb1.mono (by simp; omega))
  clear hb1
  go_wp2_with fail
  go_ret2
  exact ⟨rfl, B1⟩
/-- Program and reference return the same. -/
theorem PathToWrong_both (gs : List Int) (h q : Int) (s : ByteArray) (hsz : s.size ≤ 9223372036854775807) : ∃ (ra : ByteArray) (rc : Int),
    (∀ v w, Sl w v gs → Calls Tryd.prog 28 #[.agg #[v], .agg #[.int .i64 h, .int .i64 q], .string s] w fun e w' => e = .returned (.tuple #[.string ra, .int .i64 rc]) ∧ Below w.heap.size w w')
    ∧ (∀ v w, Sl w v gs → Calls Tryd.prog 27 #[.agg #[v], .agg #[.int .i64 h, .int .i64 q], .string s] w fun e w' => e = .returned (.tuple #[.string ra, .int .i64 rc]) ∧ Below w.heap.size w w') := by
  refine ⟨_, _, fun v w hv => ?_, fun v w hv => PathToWrong_s v gs h q s w hv hsz⟩
  cases hs : hnB gs h q
  · exact PathToWrong_i1 v gs h q s w hv hsz hs
  · exact PathToWrong_i0 v gs h q s w hv hsz hs

set_option maxRecDepth 100000 in
set_option maxHeartbeats 8000000 in
theorem HandsBetween_s0 (v : Value) (gs : List Int) (h q t u : Int) (s : ByteArray) (w : World) (hv : Sl w v gs) (hsz : s.size ≤ 9223372036854775807) (hs : hnB gs h q = true) (ht : hnB gs t u = true) (hk : knB s = true) :
    Calls Tryd.prog 23 #[.agg #[v], .agg #[.int .i64 h, .int .i64 q], .agg #[.int .i64 t, .int .i64 u], .string s] w fun e w' => e = .returned (.tuple #[.string (hbR gs h q t u s).1, .int .i64 (hbR gs h q t u s).2]) ∧ Below w.heap.size w w' := by
  have H1 := Lib.hid (fun w' (hb : Below w.heap.size w w') => l23Ok_s v gs h q w' (hv.below hb))
  have H2 := Lib.hid (fun w' (hb : Below w.heap.size w w') => l23Ok_s v gs t u w' (hv.below hb))
  have H3 := Lib.hid (fun w' => l23Known_any s w' hsz)
  obtain ⟨hw, hx⟩ := hnB_iff.1 hs
  obtain ⟨-, h1, h24⟩ := whB_iff.1 hw
  have HR := Lib.hid (show hbR gs h q t u s = fwW (sameP (t, u)) (waysOf gs h q s) by unfold hbR; rw [if_pos ⟨hs, ht⟩, wtR_t hk])
  have HS := Lib.hid (fun w' (hb : Below w.heap.size w w') => l23Search_any v gs h q s w' (hv.below hb) hw hx hsz)
  have HT := Lib.hid (waysOf_ok s h1 hx).1
  have HB := Lib.hid hs
  have HC := Lib.hid ht
  have HKn := Lib.hid hk
  clear hv hw hx hs ht hk
  go_enter Tryd.func23, Tryd.ntmps23
  obtain ⟨k0, k1, k2⟩ := bx3 w 31 28 28 #[v] #[.int .i64 h, .int .i64 q] #[.int .i64 t, .int .i64 u]
  have HK0 := Lib.hid k0
  have HK1 := Lib.hid k1
  have HK2 := Lib.hid k2
  clear k0 k1 k2
  go_wp2_with fail
  refine (H1.out _ (by go_grown)).mono ?_
  rintro e w1 ⟨rfl, hb1⟩
  rw [HB.out]
  have J0 := Lib.hid (HK0.out.below hb1)
  have J1 := Lib.hid (HK1.out.below hb1)
  have J2 := Lib.hid (HK2.out.below hb1)
  have q0 := J0.out.cell 0 rfl
  have q3 := J2.out.cell 0 rfl
  have q4 := J2.out.cell 1 rfl
  have HB1 := Lib.hid (show Below w.heap.size w w1 from Below.trans (by go_grown) (hb1.mono (by simp; omega)))
  clear hb1 HK0 HK1 HK2
  go_wp2_with fail
  refine (H2.out _ HB1.out).mono ?_
  rintro e w2 ⟨rfl, hb2⟩
  rw [HC.out]
  clear q0 q3 q4
  have K0 := Lib.hid (J0.out.below hb2)
  have K1 := Lib.hid (J1.out.below hb2)
  have K2 := Lib.hid (J2.out.below hb2)
  have q0 := K0.out.cell 0 rfl
  have q1 := K1.out.cell 0 rfl
  have q2 := K1.out.cell 1 rfl
  have HB2 := Lib.hid (HB1.out.trans (hb2.mono HB1.out.size))
  clear hb2 J0 J1 J2
  go_wp2_with fail
  refine (H3.out _).mono ?_
  rintro e w' ⟨rfl, rfl⟩
  rw [HKn.out]
  obtain ⟨L, hL⟩ : ∃ L, L = waysOf gs h q s := ⟨_, rfl⟩
  rw [← hL] at HT HR HS
  clear hL
  go_wp2_with fail
  refine (HS.out _ HB2.out).mono ?_
  rintro e w3 ⟨v1, v2, rfl, ho1, ho2, hb3⟩
  have HB3 := Lib.hid (HB2.out.trans (hb3.mono HB2.out.size))
  have P2 := Lib.hid (K2.out.below hb3)
  obtain ⟨b1, c1, rfl, hb11, hb12, hc11, hc12, hcl1⟩ := own_sts ho1 HT.out.pos
  obtain ⟨b2, c2, rfl, hb21, hb22, hc21, hc22, hcl2⟩ := own_txt ho2 HT.out.pos
  simp only [maxLen] at hc12 hc22
  clear ho1 ho2 hb3 q0 q1 q2 K0 K1 K2
  go_wp2_with fail
  go_loopw [12] (fun a wr => ∃ i : Nat, i ≤ L.length ∧ a = .int .i64 (i : Int) ∧ Hid (NoW (sameP (t, u)) L i) ∧ Hid (Below w3.heap.size w3 wr)) (fun a _ => L.length - (intOf a).toNat)
  case atStart => exact ⟨0, by omega, by go_num, Lib.hid (NoW.zero _ _), Lib.hid (Below.refl _ _)⟩
  case round =>
    obtain ⟨i, hi, rfl, hno, hB⟩ := hrel
    obtain ⟨wi, rfl⟩ : ∃ y : World, y = wr := ⟨_, rfl⟩
    by_cases hlt : i < L.length
    · have i1 : (i : Int) < (L.length : Int) := by omega
      obtain ⟨d0, d1⟩ := hcl1.out i hlt
      have d2 := hcl2.out i hlt
      obtain ⟨x, hxe⟩ : ∃ x, x = pw L i := ⟨_, rfl⟩
      rw [← hxe] at d0 d1 d2
      have HXe := Lib.hid hxe
      have HBi := Lib.hid (HB3.out.trans (hB.out.mono HB3.out.size))
      have q0 := (hB.out.cell (p := ⟨b1, i * 2, none⟩) hb12).trans d0
      have q1 := (hB.out.cell (p := ⟨b1, i * 2 + 1, none⟩) hb12).trans d1
      have q2 := (hB.out.cell (p := ⟨b2, i, none⟩) hb22).trans d2
      have P3 := Lib.hid (P2.out.below hB.out)
      have q3 := P3.out.cell 0 rfl
      have q4 := P3.out.cell 1 rfl
      clear d0 d1 d2 hxe
      cases hP : sameP (t, u) x.1
      · have HN := Lib.hid (hno.out.succ (by rw [← HXe.out]; exact hP))
        by_cases e1 : x.1.1 = t
        · have e2 : ¬ x.1.2 = u := fun e => by
            have : x.1 = (t, u) := Prod.ext e1 e
            rw [sameP, this] at hP; simp at hP
          rw [e1] at q0
          have n2 : (x.1.2 == u) = false := by simp [e2]
          clear hP e1 e2
          go_wp2_with fail
          go_quiet (fail)
          go_wp2_with fail
          go_roundw
          case rel => exact ⟨i + 1, by omega, by go_num, HN, Lib.hid (by first | exact hB.out | exact below_drewN hB.out _)⟩
          case measure => simp [intOf]; omega
        · have n1 : (x.1.1 == t) = false := by simp [e1]
          clear hP e1
          go_wp2_with fail
          go_quiet (fail)
          go_wp2_with fail
          go_roundw
          case rel => exact ⟨i + 1, by omega, by go_num, HN, Lib.hid (by first | exact hB.out | exact below_drewN hB.out _)⟩
          case measure => simp [intOf]; omega
      · have HE := Lib.hid (fwW_hit hlt hno.out (by rw [← HXe.out]; exact hP))
        have e : x.1 = (t, u) := by simpa [sameP] using hP
        have e1 : x.1.1 = t := by rw [e]
        have e2 : x.1.2 = u := by rw [e]
        rw [e1] at q0
        rw [e2] at q1
        clear hP e e1 e2
        go_wp2_with fail
        go_quiet (fail)
        go_wp2_with fail
        go_ret2
        exact ⟨ret_si (by rw [HR.out, HE.out, ← HXe.out]) (by rw [HR.out, HE.out]), by first | exact HBi.out | exact below_drewN HBi.out _⟩
    · obtain rfl : i = L.length := by omega
      have HE := Lib.hid (fwW_none hno.out)
      go_wp2_with fail
      go_ret2
      exact ⟨ret_si (by rw [HR.out, HE.out]) (by rw [HR.out, HE.out]), HB3.out.trans (hB.out.mono HB3.out.size)⟩
set_option maxHeartbeats 4000000 in
theorem HandsBetween_s7 (v : Value) (gs : List Int) (h q t u : Int) (s : ByteArray) (w : World) (hv : Sl w v gs) (hsz : s.size ≤ 9223372036854775807) (hs : hnB gs h q = true) (ht : hnB gs t u = true) (hk : knB s = false) :
    Calls Tryd.prog 23 #[.agg #[v], .agg #[.int .i64 h, .int .i64 q], .agg #[.int .i64 t, .int .i64 u], .string s] w fun e w' => e = .returned (.tuple #[.string (hbR gs h q t u s).1, .int .i64 (hbR gs h q t u s).2]) ∧ Below w.heap.size w w' := by
  have H1 := Lib.hid (fun w' (hb : Below w.heap.size w w') => l23Ok_s v gs h q w' (hv.below hb))
  have H2 := Lib.hid (fun w' (hb : Below w.heap.size w w') => l23Ok_s v gs t u w' (hv.below hb))
  have H3 := Lib.hid (fun w' => l23Known_any s w' hsz)
  have HR := Lib.hid (show hbR gs h q t u s = (⟨#[]⟩, 7) by unfold hbR; rw [if_pos ⟨hs, ht⟩, wtR_f hk])
  have HB := Lib.hid hs
  have HC := Lib.hid ht
  have HKn := Lib.hid hk
  clear hv hs ht hk
  go_enter Tryd.func23, Tryd.ntmps23
  obtain ⟨k0, k1, k2⟩ := bx3 w 31 28 28 #[v] #[.int .i64 h, .int .i64 q] #[.int .i64 t, .int .i64 u]
  have HK0 := Lib.hid k0
  have HK2 := Lib.hid k2
  clear k0 k1 k2
  go_wp2_with fail
  refine (H1.out _ (by go_grown)).mono ?_
  rintro e w1 ⟨rfl, hb1⟩
  rw [HB.out]
  have q0 := (HK0.out.below hb1).cell 0 rfl
  have q3 := (HK2.out.below hb1).cell 0 rfl
  have q4 := (HK2.out.below hb1).cell 1 rfl
  have HB1 := Lib.hid (show Below w.heap.size w w1 from Below.trans (by go_grown) (hb1.mono (by simp; omega)))
  clear hb1 HK0 HK2
  go_wp2_with fail
  refine (H2.out _ HB1.out).mono ?_
  rintro e w2 ⟨rfl, hb2⟩
  rw [HC.out]
  have HB2 := Lib.hid (HB1.out.trans (hb2.mono HB1.out.size))
  clear hb2 q0 q3 q4
  go_wp2_with fail
  refine (H3.out _).mono ?_
  rintro e w' ⟨rfl, rfl⟩
  rw [HKn.out]
  go_wp2_with fail
  go_ret2
  exact ⟨ret_si (by rw [HR.out]) (by rw [HR.out]), HB2.out⟩
set_option maxHeartbeats 4000000 in
theorem HandsBetween_s1 (v : Value) (gs : List Int) (h q t u : Int) (s : ByteArray) (w : World) (hv : Sl w v gs) (hs : hnB gs h q = false) :
    Calls Tryd.prog 23 #[.agg #[v], .agg #[.int .i64 h, .int .i64 q], .agg #[.int .i64 t, .int .i64 u], .string s] w fun e w' => e = .returned (.tuple #[.string (hbR gs h q t u s).1, .int .i64 (hbR gs h q t u s).2]) ∧ Below w.heap.size w w' := by
  have H1 := Lib.hid (fun w' (hb : Below w.heap.size w w') => l23Ok_s v gs h q w' (hv.below hb))
  have HR := Lib.hid (show hbR gs h q t u s = (⟨#[]⟩, 1) by unfold hbR; rw [if_neg (by simp [hs])])
  have HB := Lib.hid hs
  clear hv hs
  go_enter Tryd.func23, Tryd.ntmps23
  obtain ⟨k0, k1, k2⟩ := bx3 w 31 28 28 #[v] #[.int .i64 h, .int .i64 q] #[.int .i64 t, .int .i64 u]
  have HK0 := Lib.hid k0
  have HK2 := Lib.hid k2
  clear k0 k1 k2
  go_wp2_with fail
  refine (H1.out _ (by go_grown)).mono ?_
  rintro e w1 ⟨rfl, hb1⟩
  rw [HB.out]
  have q0 := (HK0.out.below hb1).cell 0 rfl
  have q3 := (HK2.out.below hb1).cell 0 rfl
  have q4 := (HK2.out.below hb1).cell 1 rfl
  have HB1 := Lib.hid (show Below w.heap.size w w1 from Below.trans (by go_grown) (hb1.mono (by simp; omega)))
  clear hb1 HK0 HK2
  go_wp2_with fail
  go_ret2
  exact ⟨ret_si (by rw [HR.out]) (by rw [HR.out]), HB1.out⟩
set_option maxHeartbeats 4000000 in
theorem HandsBetween_s2 (v : Value) (gs : List Int) (h q t u : Int) (s : ByteArray) (w : World) (hv : Sl w v gs) (hs : hnB gs h q = true) (ht : hnB gs t u = false) :
    Calls Tryd.prog 23 #[.agg #[v], .agg #[.int .i64 h, .int .i64 q], .agg #[.int .i64 t, .int .i64 u], .string s] w fun e w' => e = .returned (.tuple #[.string (hbR gs h q t u s).1, .int .i64 (hbR gs h q t u s).2]) ∧ Below w.heap.size w w' := by
  have H1 := Lib.hid (fun w' (hb : Below w.heap.size w w') => l23Ok_s v gs h q w' (hv.below hb))
  have H2 := Lib.hid (fun w' (hb : Below w.heap.size w w') => l23Ok_s v gs t u w' (hv.below hb))
  have HR := Lib.hid (show hbR gs h q t u s = (⟨#[]⟩, 1) by unfold hbR; rw [if_neg (by simp [ht])])
  have HB := Lib.hid hs
  have HC := Lib.hid ht
  clear hv hs ht
  go_enter Tryd.func23, Tryd.ntmps23
  obtain ⟨k0, k1, k2⟩ := bx3 w 31 28 28 #[v] #[.int .i64 h, .int .i64 q] #[.int .i64 t, .int .i64 u]
  have HK0 := Lib.hid k0
  have HK2 := Lib.hid k2
  clear k0 k1 k2
  go_wp2_with fail
  refine (H1.out _ (by go_grown)).mono ?_
  rintro e w1 ⟨rfl, hb1⟩
  rw [HB.out]
  have q0 := (HK0.out.below hb1).cell 0 rfl
  have q3 := (HK2.out.below hb1).cell 0 rfl
  have q4 := (HK2.out.below hb1).cell 1 rfl
  have HB1 := Lib.hid (show Below w.heap.size w w1 from Below.trans (by go_grown) (hb1.mono (by simp; omega)))
  clear hb1 HK0 HK2
  go_wp2_with fail
  refine (H2.out _ HB1.out).mono ?_
  rintro e w2 ⟨rfl, hb2⟩
  rw [HC.out]
  have HB2 := Lib.hid (HB1.out.trans (hb2.mono HB1.out.size))
  clear hb2 q0 q3 q4
  go_wp2_with fail
  go_ret2
  exact ⟨ret_si (by rw [HR.out]) (by rw [HR.out]), HB2.out⟩
/-- Program and reference return the same. -/
theorem HandsBetween_both (gs : List Int) (h q t u : Int) (s : ByteArray) (hsz : s.size ≤ 9223372036854775807) : ∃ (ra : ByteArray) (rc : Int),
    (∀ v w, Sl w v gs → Calls Tryd.prog 24 #[.agg #[v], .agg #[.int .i64 h, .int .i64 q], .agg #[.int .i64 t, .int .i64 u], .string s] w fun e w' => e = .returned (.tuple #[.string ra, .int .i64 rc]) ∧ Below w.heap.size w w')
    ∧ (∀ v w, Sl w v gs → Calls Tryd.prog 23 #[.agg #[v], .agg #[.int .i64 h, .int .i64 q], .agg #[.int .i64 t, .int .i64 u], .string s] w fun e w' => e = .returned (.tuple #[.string ra, .int .i64 rc]) ∧ Below w.heap.size w w') := by
  cases hs : hnB gs h q
  · exact ⟨_, _, fun v w hv => HandsBetween_i1 v gs h q t u s w hv hsz hs, fun v w hv => HandsBetween_s1 v gs h q t u s w hv hs⟩
  · cases ht : hnB gs t u
    · exact ⟨_, _, fun v w hv => HandsBetween_i2 v gs h q t u s w hv hsz hs ht, fun v w hv => HandsBetween_s2 v gs h q t u s w hv hs ht⟩
    · cases hk : knB s
      · exact ⟨_, _, fun v w hv => HandsBetween_i0 v gs h q t u s w hv hsz hs ht, fun v w hv => HandsBetween_s7 v gs h q t u s w hv hsz hs ht hk⟩
      · exact ⟨_, _, fun v w hv => HandsBetween_i0 v gs h q t u s w hv hsz hs ht, fun v w hv => HandsBetween_s0 v gs h q t u s w hv hsz hs ht hk⟩
end Go.Proofs.YtfddibdncniekaaDoor
