/- Chimes: numbers read (ReadDecimal). -/
import Derived.Test.YtgaohmbgjjhdbaaGreatDoorTtG
namespace Go.Proofs.YtgaohmbgjjhdbaaGreatDoor
open Go.RowKit
attribute [local go_sem ↓] Go.wp_at_zero Go.wp_at_succ

theorem parse_dg {d : Nat} (h0 : 1 ≤ d) (h1 : d ≤ 8) : Lib.parseIntB 64 (Lib.decDigits d) = .ok (d : Int) ∧ Lib.itoa (d : Int) = Lib.decDigits d ∧ Lib.trimPrefix (Lib.decDigits d) [45] = Lib.decDigits d ∧ (Lib.decDigits d).length = 1 := by
  rw [dec1 (by omega)]
  rcases (show d = 1 ∨ d = 2 ∨ d = 3 ∨ d = 4 ∨ d = 5 ∨ d = 6 ∨ d = 7 ∨ d = 8 by omega) with rfl | rfl | rfl | rfl | rfl | rfl | rfl | rfl <;> exact ⟨by decide +kernel, by rw [Lib.itoa]; decide +kernel, by decide +kernel, rfl⟩
/-- What a reader of numbers answers. -/
def NumOk (s : List UInt8) (m : Int) (ok : Bool) : Prop := ∀ d : Nat, 1 ≤ d → d ≤ 8 → s = Lib.decDigits d → m = d ∧ ok = true
set_option maxRecDepth 100000 in
set_option maxHeartbeats 4000000 in
theorem ReadDecimal_any (s : List UInt8) (hs : s.length ≤ 1048576) (w : World) (hg : GX w) :
    Calls Tryz.prog 33 #[.string (bT s)] w fun e w' => ∃ (m : Int) (ok : Bool), e = .returned (.tuple #[.int .i64 m, .bool ok]) ∧ NumOk s m ok ∧ Below w.heap.size w w' := by
  obtain ⟨t, ht⟩ : ∃ t, t = Lib.trimPrefix s [45] := ⟨_, rfl⟩
  have HT := Lib.hid (fun w => ht ▸ TrimPrefix_any s w)
  have HP := Lib.hid (fun w (hg : GX w) => ParseInt_any s w hs hg)
  have HG := Lib.hid hg
  have zt := bT_size t
  obtain ⟨bs, hbs⟩ : ∃ bs, bs = bT s := ⟨_, rfl⟩
  obtain ⟨bt, hbt⟩ : ∃ bt, bt = bT t := ⟨_, rfl⟩
  rw [← hbt] at zt HT
  simp only [← hbs] at HT HP ⊢
  have HB := Lib.hid hbs
  have HTR := Lib.hid ht
  clear ht hbt hg hbs
  go_enter Tryz.func33, Tryz.ntmps33
  go_wp2_with fail
  refine (HT.out _).mono ?_
  rintro e w1 ⟨rfl, rfl⟩
  by_cases hl1 : t.length < 1
  · have hN : Hid (NumOk s 0 false) := fun d h0 h1 e => by
      obtain ⟨_, _, p3, p4⟩ := parse_dg h0 h1
      rw [HTR.out, e, p3, p4] at hl1; omega
    have n1 : (bt.size : Int) < 1 := by omega
    clear hl1 zt
    go_wp2_with fail
    go_ret2
    exact ⟨0, false, rfl, hN.out, Below.refl _ _⟩
  · by_cases hl2 : 18 < t.length
    · have hN : Hid (NumOk s 0 false) := fun d h0 h1 e => by
        obtain ⟨_, _, p3, p4⟩ := parse_dg h0 h1
        rw [HTR.out, e, p3, p4] at hl2; omega
      have n1 : ¬ (bt.size : Int) < 1 := by omega
      have n2 : (18 : Int) < (bt.size : Int) := by omega
      clear hl1 hl2 zt
      go_wp2_with fail
      go_ret2
      exact ⟨0, false, rfl, hN.out, Below.refl _ _⟩
    · have n1 : ¬ (bt.size : Int) < 1 := by omega
      have n2 : ¬ (18 : Int) < (bt.size : Int) := by omega
      clear hl1 hl2 zt
      go_wp2_with fail
      refine (HP.out _ HG.out).mono ?_
      rintro e w2 ⟨he, hb2⟩
      have HB2 := Lib.hid hb2
      clear hb2
      rcases he with ⟨v, hv, rfl⟩ | ⟨hno, v, tp, p, rfl⟩
      · have hbd := Lib.parseIntB_bounds hv
        have HD := Lib.hid (DecimalZ_any v (by omega) (by omega) w2 (HG.out.below HB2.out))
        have HV := Lib.hid hv
        obtain ⟨bd, hbd2⟩ : ∃ bd, bd = bT (Lib.itoa v) := ⟨_, rfl⟩
        rw [← hbd2] at HD
        have HDD := Lib.hid hbd2
        clear hbd hv hbd2
        go_wp2_with fail
        refine HD.out.mono ?_
        rintro e w3 ⟨rfl, hb3⟩
        have HB3 := Lib.hid (HB2.out.trans (hb3.mono HB2.out.size))
        clear hb3 HD
        by_cases hq : bd = bs
        · have hN : Hid (NumOk s v true) := fun d h0 h1 e => by
            obtain ⟨p1, _, _, _⟩ := parse_dg h0 h1
            have h2 := HV.out
            rw [e, p1] at h2
            injection h2 with h2
            exact ⟨h2.symm, rfl⟩
          have hE : (bd.toList == bs.toList) = true := by rw [hq]; exact beq_self_eq_true _
          clear hq
          go_wp2_with fail
          go_ret2
          exact ⟨v, true, rfl, hN.out, HB3.out⟩
        · have hN : Hid (NumOk s 0 false) := fun d h0 h1 e => by
            obtain ⟨p1, p2, _, _⟩ := parse_dg h0 h1
            have h2 := HV.out
            rw [e, p1] at h2
            injection h2 with h2
            exact absurd (by rw [HDD.out, HB.out, e, ← h2, p2]) hq
          have hE : (bd.toList == bs.toList) = false := by
            rw [beq_eq_false_iff_ne]
            intro e
            rw [Lib.toList_data, Lib.toList_data] at e
            exact hq (ByteArray.ext (Array.toList_inj.1 e))
          clear hq
          go_wp2_with fail
          go_ret2
          exact ⟨0, false, rfl, hN.out, HB3.out⟩
      · have hN : Hid (NumOk s 0 false) := fun d h0 h1 e => by
          obtain ⟨p1, _, _, _⟩ := parse_dg h0 h1
          exact absurd (e ▸ p1) (hno d)
        clear hno
        go_wp2_with fail
        go_ret2
        exact ⟨0, false, rfl, hN.out, HB2.out⟩
end Go.Proofs.YtgaohmbgjjhdbaaGreatDoor
