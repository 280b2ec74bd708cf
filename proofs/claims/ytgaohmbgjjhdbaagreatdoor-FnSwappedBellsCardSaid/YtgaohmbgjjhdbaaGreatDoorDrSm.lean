/- Chimes: what DrawSameBarrel draws: some two barrels. -/
import Derived.Test.YtgaohmbgjjhdbaaGreatDoorDrY
import Derived.Test.YtgaohmbgjjhdbaaGreatDoorChU
import Derived.Deep.RegionHeld3
import Derived.Deep.CutBlock
import Derived.Deep.DeepCutAuto
namespace Go.Proofs.YtgaohmbgjjhdbaaGreatDoor
open Go.RowKit
attribute [local go_sem ↓] Go.wp_at_zero Go.wp_at_succ

/-- Two barrels that a law draws. -/
def TwoPost (W : World) (e : Ending) (w' : World) : Prop :=
  ∃ (va : Value) (sa ba : Int) (pa : List (Int × Int)) (vc : Value) (sc bc : Int) (pc : List (Int × Int)), e = .returned (.tuple #[.agg #[.int .i64 sa, .int .i64 ba, va], .agg #[.int .i64 sc, .int .i64 bc, vc]]) ∧ SlP w' va pa ∧ SlP w' vc pc ∧ Below W.heap.size W w'
theorem slp_setFar {w : World} {u : Value} {y : List (Int × Int)} (h : SlP w u y) {p : Addr} (hne : u.ownBlock ≠ some p.block) (x : Value) : SlP (w.setCell p x) u y :=
  SlC.keep h (by simp) fun b o _ hv => World.cell?_of_block (a := ⟨b, o, none⟩) (Below.heap_setCell w p x b (fun e => hne (by rw [hv, e])))

set_option maxRecDepth 100000 in
set_option maxHeartbeats 8000000 in
theorem DrawSameBarrel_any (vb : Value) (bs : List Int) (W w : World) (hv : SlB W vb bs) (hb : Below W.heap.size W w) :
    Calls Tryz.prog 14 #[vb] w (TwoPost w) := by
  have HP : Hid (∀ e w', (∃ (va : Value) (sa ba : Int) (pa : List (Int × Int)) (vc : Value) (sc bc : Int) (pc : List (Int × Int)), e = .returned (.tuple #[.agg #[.int .i64 sa, .int .i64 ba, va], .agg #[.int .i64 sc, .int .i64 bc, vc]]) ∧ SlP w' va pa ∧ SlP w' vc pc ∧ Below w.heap.size w w') → TwoPost w e w') := fun e w' h => h
  have HV := Lib.hid (fun w1 (hb : Below w.heap.size w w1) g (hg : w1.heap.size = g) => l00From_c vb bs w w1 (hv.below (by assumption)) hb g hg)
  clear hv hb
  go_enter Tryz.func14, Tryz.ntmps14
  obtain ⟨k1, k2⟩ := bx2 w 26 26 #[.int .i64 0, .int .i64 0, .slice none 0 0] #[.int .i64 0, .int .i64 0, .slice none 0 0]
  have K1 := Lib.hid k1
  have K2 := Lib.hid k2
  clear k1 k2
  go_wp2_with fail
  refine (HV.out _ (by go_grown) (w.heap.size + 2) (by simp)).mono ?_
  rintro e w1 ⟨rfl, hs, hb1⟩
  have B1 := Lib.hid (K1.out.below hb1)
  have D1 := Lib.hid (K2.out.below hb1)
  have z1 : w.heap.size + 2 < w1.heap.size := hs.lt
  have S1 := Lib.hid hs
  clear hs hb1 K1 K2 HV
  go_wp2_with fail
  refine (l22Draw_any w w1 _ vb bs 0 S1.out (by omega)).mono ?_
  rintro e w2 ⟨v, st, bl, ps, rfl, ho, ⟨hok, st12, bl5, hl60⟩, hs, hg2⟩
  obtain ⟨A, C, rfl⟩ := own_form ho
  obtain ⟨⟨s1, s2⟩, ⟨l1, l2⟩, _, hPT⟩ := brB_iff.1 hok
  have B2 := Lib.hid (B1.out.grown hg2 (by first | (simp; done) | (simp; omega) | omega))
  have D2 := Lib.hid (D1.out.grown hg2 (by first | (simp; done) | (simp; omega) | omega))
  have z2 := hg2.size
  have HPT := Lib.hid hPT
  have HPI : Hid (∀ k, k < ps.length → 0 ≤ (pi ps k).1 ∧ (pi ps k).1 < st) := fun k hk => by
    have := inB_iff.1 (HPT.out k hk).1
    omega
  have O2 := Lib.hid (own_mono ho (show w.heap.size + 3 ≤ w1.heap.size by omega))
  have S2 := Lib.hid hs
  clear hs hg2 B1 D1 ho S1 hok hPT
  obtain ⟨w3, hw3⟩ : ∃ w3, w3 = w2.alloc (.cells #[.int .i64 st, .int .i64 bl, .slice A ps.length C] 26) := ⟨_, rfl⟩
  have dw : Below w2.heap.size w2 w3 := by subst hw3; go_grown
  have X3 : Hid (Blk w3 w2.heap.size 26 #[.int .i64 st, .int .i64 bl, .slice A ps.length C]) := by subst hw3; exact Blk.new _ _ _
  have B3 := Lib.hid (B2.out.below dw)
  have D3 := Lib.hid (D2.out.below dw)
  have O3 := Lib.hid (own_below O2.out dw)
  have S3 := Lib.hid (S2.out.below dw)
  have z3 : w3.heap.size = w2.heap.size + 1 := by subst hw3; simp
  have HW3 := Lib.hid hw3
  have HVA : Hid (∀ b, (Value.slice A ps.length C).ownBlock = some b → b < w3.heap.size ∧ w.heap.size + 2 ≤ b) := fun b hb => ⟨(O3.out.lt b hb).2, by have := (O3.out.lt b hb).1; omega⟩
  clear dw hw3 B2 D2 O2 S2
  have HT3 := Lib.hid (fun w' (hb : Below w3.heap.size w3 w') => l22Turn_any _ ps st bl 0 w' ((SlP.of_own O3.out).below hb) (by omega) HPI.out (by omega) (by omega) (by omega))
  go_wp2_with fail
  rw [← HW3.out]
  refine (HT3.out _ (Below.refl _ _)).mono ?_
  rintro e w4 ⟨v4, rfl, ho4, hb4⟩
  obtain ⟨qs, hqs⟩ : ∃ qs, qs = srtP (ps.map (trnP st 0)) ps.length := ⟨_, rfl⟩
  have hql : qs.length = ps.length := by rw [hqs, srtP_length]
  rw [← hqs] at ho4
  clear hqs
  have HQL := Lib.hid hql
  clear hql
  obtain ⟨A4, C4, rfl⟩ := own_form ho4
  obtain ⟨w5, hw5⟩ : ∃ w5, w5 = w4.alloc (.cells #[.int .i64 st, .int .i64 bl, .slice A4 qs.length C4] 26) := ⟨_, rfl⟩
  have dw : Below w4.heap.size w4 w5 := by subst hw5; go_grown
  have b5 := hb4.trans (dw.mono hb4.size)
  have X5 := Lib.hid (X3.out.below b5)
  have Y5 : Hid (Blk w5 w4.heap.size 26 #[.int .i64 st, .int .i64 bl, .slice A4 qs.length C4]) := by subst hw5; exact Blk.new _ _ _
  have B5 := Lib.hid (B3.out.below b5)
  have D5 := Lib.hid (D3.out.below b5)
  have O5 := Lib.hid (own_below O3.out b5)
  have Q5 := Lib.hid (own_below ho4 dw)
  have S5 := Lib.hid (S3.out.below b5)
  have z4 := hb4.size
  have z5 : w5.heap.size = w4.heap.size + 1 := by subst hw5; simp
  have HW5 := Lib.hid hw5
  have HVC : Hid (∀ b, (Value.slice A4 qs.length C4).ownBlock = some b → b < w4.heap.size ∧ w.heap.size + 2 ≤ b) := fun b hb => ⟨(ho4.lt b hb).2, by have := (ho4.lt b hb).1; omega⟩
  clear dw hw5 b5 ho4 hb4 X3 B3 D3 O3 S3 HT3 HW3
  go_wp2_with fail
  rw [← HW5.out]
  refine (pick_any w _ _ vb bs _ S5.out (by omega) _ (by omega)).mono ?_
  rintro e w6 ⟨q, ⟨q0, q1⟩, rfl, hs, hg6⟩
  have X6 := Lib.hid (X5.out.grown hg6 (by first | (simp; done) | (simp; omega) | omega))
  have Y6 := Lib.hid (Y5.out.grown hg6 (by first | (simp; done) | (simp; omega) | omega))
  have B6 := Lib.hid (B5.out.grown hg6 (by first | (simp; done) | (simp; omega) | omega))
  have D6 := Lib.hid (D5.out.grown hg6 (by first | (simp; done) | (simp; omega) | omega))
  have O6 := Lib.hid (O5.out.kept hg6 (own_apartB O5.out (by omega)))
  have Q6 := Lib.hid (Q5.out.kept hg6 (own_apartB Q5.out (by omega)))
  have S6 := Lib.hid hs
  have z6 := hg6.size
  clear hs hg6 X5 Y5 B5 D5 O5 Q5 S5 HW5 q0 q1
  go_upto_block 0 with fail
  go_cut [] (fun wr => ∃ (sc bc : Int) (Ac : Option Addr) (nc cc : Nat) (pc : List (Int × Int)), Blk wr w4.heap.size 26 #[.int .i64 sc, .int .i64 bc, .slice Ac nc cc] ∧ SlP wr (.slice Ac nc cc) pc ∧ (∀ b, (Value.slice Ac nc cc).ownBlock = some b → w.heap.size + 2 ≤ b) ∧ Blk wr w2.heap.size 26 #[.int .i64 st, .int .i64 bl, .slice A ps.length C] ∧ SlP wr (.slice A ps.length C) ps ∧ Blk wr w.heap.size 26 #[.int .i64 0, .int .i64 0, .slice none 0 0] ∧ Blk wr (w.heap.size + 1) 26 #[.int .i64 0, .int .i64 0, .slice none 0 0] ∧ Below w.heap.size w wr)
  case first =>
    have HOLD := Lib.hid S6.out.old
    rcases (show q = 0 ∨ q = 1 ∨ q = 2 ∨ ¬ (q = 0 ∨ q = 1 ∨ q = 2) by omega) with rfl | rfl | rfl | hq
    · have a0 := X6.out.cell 0 rfl
      have a1 := X6.out.cell 1 rfl
      have a2 := X6.out.cell 2 rfl
      have az := X6.out.lt
      have Sd := Lib.hid (S6.out.below (below_drewB _))
      have Xd := Lib.hid (X6.out.drew)
      have Yd := Lib.hid (Y6.out.drew)
      have Bd := Lib.hid (B6.out.drew)
      have Dd := Lib.hid (D6.out.drew)
      have Od := Lib.hid (O6.out.drew)
      have hzd : w6.drew.heap.size = w6.heap.size := rfl
      go_wp2_with fail
      go_region_held3 (fun w' => w'.cell? ⟨w2.heap.size, 0, none⟩ = some (.int .i64 st) ∧ w'.cell? ⟨w2.heap.size, 1, none⟩ = some (.int .i64 bl) ∧ w'.cell? ⟨w2.heap.size, 2, none⟩ = some (.slice A ps.length C)) (first | (with_reducible exact ⟨a0, a1, a2⟩) | ((try dsimp only); refine ⟨?_, ?_, ?_⟩ <;> (first | (simp [go_sem, *]; done))) | go_keep)
        (first
          | (go_at_call 18; refine (pick_any w _ _ vb bs _ Sd.out (by omega) _ (by omega)).mono ?_; rintro e w7 ⟨y, ⟨y0, y1⟩, rfl, hs, hg⟩; have hyst : y < st := (by omega); have X7 := Xd.out.grown hg (by first | (simp; done) | (simp; omega) | omega); have HX7 := Lib.hid X7; have Y7 := Lib.hid (Yd.out.grown hg (by first | (simp; done) | (simp; omega) | omega)); have B7 := Lib.hid (Bd.out.grown hg (by first | (simp; done) | (simp; omega) | omega)); have D7 := Lib.hid (Dd.out.grown hg (by first | (simp; done) | (simp; omega) | omega)); have O7 := Lib.hid (Od.out.kept hg (own_apartB Od.out (by omega))); have HOLD7 := Lib.hid hs.old; have z7 := hg.size; have a0 := X7.cell 0 rfl; have a1 := X7.cell 1 rfl; have a2 := X7.cell 2 rfl; have az := X7.lt; clear hs hg X7)
          | (go_at_call 39; refine (l22Turn_any _ ps st bl y _ ((SlP.of_own O7.out).below (by go_grown)) (by omega) HPI.out y0 hyst (by omega)).mono ?_; rintro e w8 ⟨v8, rfl, ho8, hb8⟩; have hb8' : Below w7.heap.size w7 w8 := (Below.trans (by go_grown) (hb8.mono (by first | (simp; done) | (simp; omega) | omega))); obtain ⟨A8, C8, rfl⟩ := own_form ho8; have X8 := HX7.out.below hb8'; have HX8 := Lib.hid X8; have Y8 := Y7.out.below hb8'; have HY8 := Lib.hid Y8; have B8_ := Lib.hid (B7.out.below hb8'); have D8 := Lib.hid (D7.out.below hb8'); have O8 := Lib.hid (own_below O7.out hb8'); have HOLD8 := Lib.hid (HOLD7.out.trans (hb8'.mono HOLD7.out.size)); have HO8 := Lib.hid ho8; have z8 := hb8'.size; have a0 := X8.cell 0 rfl; have a1 := X8.cell 1 rfl; have a2 := X8.cell 2 rfl; have az := X8.lt; have y0_ := Y8.cell 0 rfl; have y1_ := Y8.cell 1 rfl; have y2_ := Y8.cell 2 rfl; have g0_ := Y8.frozen 0; have g1_ := Y8.frozen 1; have g2_ := Y8.frozen 2; have yz_ := Y8.lt; clear ho8 hb8 hb8' X8 Y8))
      all_goals
        go_wp2
        go_meet
        have hvb : ∀ b, (Value.slice A8 (srtP (ps.map (trnP st y)) ps.length).length C8).ownBlock = some b → b ≠ w4.heap.size := fun b hb e => by (have := (HO8.out.lt b hb).1); (try simp at this); omega
        have hva : (Value.slice A ps.length C).ownBlock ≠ some w4.heap.size := fun e => by have := (HVA.out _ e).1; omega
        have hvc : (Value.slice A8 (srtP (ps.map (trnP st y)) ps.length).length C8).ownBlock ≠ some w4.heap.size := fun e => hvb _ e rfl
        exact ⟨st, bl, A8, _, C8, _, ((HY8.out.set_ 0 _).set_ 1 _).set_ 2 _, slp_setFar (slp_setFar (slp_setFar (SlP.of_own HO8.out) hvc _) hvc _) hvc _, fun b hb => by have := (HO8.out.lt b hb).1; (try simp at this); omega, ((HX8.out.far (by simp; omega) _).far (by simp; omega) _).far (by simp; omega) _, slp_setFar (slp_setFar (slp_setFar (SlP.of_own O8.out) hva _) hva _) hva _, ((B8_.out.far (by simp; omega) _).far (by simp; omega) _).far (by simp; omega) _, ((D8.out.far (by simp; omega) _).far (by simp; omega) _).far (by simp; omega) _, ((HOLD8.out.setCell (by simp; omega) _).setCell (by simp; omega) _).setCell (by simp; omega) _⟩
    · have y1 := Y6.out.cell 1 rfl
      have f1 := Y6.out.frozen 1
      have yz := Y6.out.lt
      have e1 : IntKind.i64.wrap (bl + 1) = bl + 1 := IntWalk.i64_in _ (by omega)
      go_wp2
      go_meet
      exact ⟨st, bl + 1, A4, qs.length, C4, qs, Y6.out.set_ 1 _, slp_setFar (SlP.of_own Q6.out) (fun e => by have := (HVC.out _ e).1; simp at this) _, fun b hb => (HVC.out b hb).2, X6.out.far (by simp; omega) _, slp_setFar (SlP.of_own O6.out) (fun e => by have := (HVA.out _ e).1; simp at this; omega) _, B6.out.far (by simp; omega) _, D6.out.far (by simp; omega) _, HOLD.out.setCell (by simp; omega) _⟩
    · have y2 := Y6.out.cell 2 rfl
      have f2 := Y6.out.frozen 2
      have yz := Y6.out.lt
      by_cases hn0 : qs.length = 0
      · have n0 : ¬ (0 : Int) < (qs.length : Int) := by omega
        clear hn0
        go_wp2
        go_meet
        exact ⟨st, bl, A4, qs.length, C4, qs, Y6.out, SlP.of_own Q6.out, fun b hb => (HVC.out b hb).2, X6.out, SlP.of_own O6.out, B6.out, D6.out, HOLD.out⟩
      · obtain ⟨g4, c4, e4, _⟩ := Q6.out.form (by omega)
        injection e4 with e4 _ e5
        subst e4 e5
        have hcap := own_cap Q6.out
        have n0 : (0 : Int) < (qs.length : Int) := by omega
        have i1 : (1 : Int) ≤ (qs.length : Int) := by omega
        have i2 : (qs.length : Int) ≤ (C4 : Int) := by omega
        have i3 : (1 : Int) ≤ (C4 : Int) := by omega
        have t1 : ((qs.length : Int) - 1).toNat = qs.length - 1 := by omega
        have t2 : ((C4 : Int) - 1).toNat = C4 - 1 := by omega
        by_cases hc1 : C4 = 1
        · subst hc1
          have hq1 : qs.length = 1 := by omega
          rw [hq1] at y2 ⊢
          have i4 : ¬ (0 : Int) = 1 := by decide
          go_wp2
          go_meet
          exact ⟨st, bl, some ⟨g4, 0, none⟩, 0, 0, [], Y6.out.set_ 2 _, ⟨_, _, rfl, Nat.le_refl _, Nat.zero_le _, fun h => absurd h (by simp [P64])⟩, fun b hb => Nat.le_trans (HVC.out g4 rfl).2 (Nat.le_of_eq (Option.some.inj hb)), X6.out.far (by simp; omega) _, slp_setFar (SlP.of_own O6.out) (fun e => by have := (HVA.out _ e).1; simp at this; omega) _, B6.out.far (by simp; omega) _, D6.out.far (by simp; omega) _, HOLD.out.setCell (by simp; omega) _⟩
        · have HTL := Lib.hid (slp_tail (SlP.of_own Q6.out) (k := 1) (by omega) (by omega) rfl (Below.refl w6.heap.size w6))
          have n9 : ¬ C4 - 1 = 0 := by omega
          have n8 : ¬ (C4 : Int) - 1 = 0 := by omega
          have n7 : 1 < C4 := by omega
          have n6 : (1 : Int) < (C4 : Int) := by omega
          go_wp2
          go_meet
          exact ⟨st, bl, some ⟨g4, 2, none⟩, qs.length - 1, C4 - 1, qs.drop 1, Y6.out.set_ 2 _, slp_setFar HTL.out (fun e => by have := (HVC.out g4 rfl).1; have e2 : g4 = w4.heap.size := Option.some.inj e; omega) _, fun b hb => Nat.le_trans (HVC.out g4 rfl).2 (Nat.le_of_eq (Option.some.inj hb)), X6.out.far (by simp; omega) _, slp_setFar (SlP.of_own O6.out) (fun e => by have := (HVA.out _ e).1; simp at this; omega) _, B6.out.far (by simp; omega) _, D6.out.far (by simp; omega) _, HOLD.out.setCell (by simp; omega) _⟩
    · have q2 : ¬ q = 0 := by omega
      have q3 : ¬ q = 1 := by omega
      have q4 : ¬ q = 2 := by omega
      go_wp2
      go_meet
      exact ⟨st, bl, A4, qs.length, C4, qs, Y6.out, SlP.of_own Q6.out, fun b hb => (HVC.out b hb).2, X6.out, SlP.of_own O6.out, B6.out, D6.out, HOLD.out⟩
  case rest =>
    obtain ⟨w9, rfl⟩ : ∃ x : World, x = wc := ⟨_, rfl⟩
    obtain ⟨sc, bc, Ac, nc, cc, pc, hy, hc, hcl, hx, ha, hB, hD, hold⟩ := hcut
    have HC := Lib.hid hc
    have HCL := Lib.hid hcl
    have HA := Lib.hid ha
    have HOLD := Lib.hid hold
    have x0 := hx.cell 0 rfl
    have x1 := hx.cell 1 rfl
    have x2 := hx.cell 2 rfl
    have xz := hx.lt
    have y0 := hy.cell 0 rfl
    have y1 := hy.cell 1 rfl
    have y2 := hy.cell 2 rfl
    have yz := hy.lt
    have p0 := hB.cell 0 rfl
    have p1 := hB.cell 1 rfl
    have p2 := hB.cell 2 rfl
    have pf0 := hB.frozen 0
    have pf1 := hB.frozen 1
    have pf2 := hB.frozen 2
    have pz := hB.lt
    have r0 := hD.cell 0 rfl
    have r1 := hD.cell 1 rfl
    have r2 := hD.cell 2 rfl
    have rf0 := hD.frozen 0
    have rf1 := hD.frozen 1
    have rf2 := hD.frozen 2
    have rz := hD.lt
    clear hy hc hcl hx ha hB hD hold X6 Y6 B6 D6 O6 Q6 S6 HPI HPT HVC
    have n1 : w2.heap.size ≠ w.heap.size := by omega
    have n2 : w2.heap.size ≠ w.heap.size + 1 := by omega
    have n3 : w4.heap.size ≠ w.heap.size := by omega
    have n4 : w4.heap.size ≠ w.heap.size + 1 := by omega
    go_wp2_with fail
    go_region
    all_goals
      go_wp2
      try simp only [Exit.inBlock, Exit.then]
      have a1 : (Value.slice A ps.length C).ownBlock ≠ some w.heap.size := fun e => by have := (HVA.out _ e).2; omega
      have a2 : (Value.slice A ps.length C).ownBlock ≠ some (w.heap.size + 1) := fun e => by have := (HVA.out _ e).2; omega
      have c1 : (Value.slice Ac nc cc).ownBlock ≠ some w.heap.size := fun e => by have := HCL.out _ e; omega
      have c2 : (Value.slice Ac nc cc).ownBlock ≠ some (w.heap.size + 1) := fun e => by have := HCL.out _ e; omega
      refine bodyPost_ret (v := .tuple #[.agg #[.int .i64 st, .int .i64 bl, .slice A ps.length C], .agg #[.int .i64 sc, .int .i64 bc, .slice Ac nc cc]]) ?_ rfl ?_
      · simp [results, Tryz.results14, go_sem, *]
      · refine HP.out _ _ ⟨_, st, bl, ps, _, sc, bc, pc, rfl, ?_, ?_, ?_⟩
        · refine SlP.drew ?_
          exact slp_setFar (slp_setFar (slp_setFar (slp_setFar (slp_setFar (slp_setFar HA.out a1 _) a1 _) a1 _) a2 _) a2 _) a2 _
        · refine SlP.drew ?_
          exact slp_setFar (slp_setFar (slp_setFar (slp_setFar (slp_setFar (slp_setFar HC.out c1 _) c1 _) c1 _) c2 _) c2 _) c2 _
        · have h := HOLD.out
          go_grown
end Go.Proofs.YtgaohmbgjjhdbaaGreatDoor
