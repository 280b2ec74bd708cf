/- Racks: what l21DrawState and l21Both draw: some state, some rack and state. -/
import Derived.Test.YtdlegcjcmhpbcaaDrR
import Derived.Test.YtdlegcjcmhpbcaaBx
import Derived.Deep.DeepCutAuto
namespace Go.Proofs.Ytdlegcjcmhpbcaa
open Go.RowKit
attribute [local go_sem ↓] Go.wp_at_zero Go.wp_at_succ

/-- What stands while l21DrawState goes on: its boxes and its source. -/
def DsAt (W w : World) (g : Nat) (vb : Value) (bs : List Int) (k : Nat) (v : Value) (ds : List Int) (wn : Int) (base : Nat) (wr : World) : Prop :=
  Blk wr w.heap.size 26 #[v, .int .i64 wn] ∧ Blk wr (w.heap.size + 1) 28 #[.int .i64 0, .int .i64 0] ∧ wr.ownsRow base 2 1 v ds.length (I64 ds) ∧ Src W wr g vb bs k ∧ w.grownBy wr (some g)
section
variable {W w wr wq : World} {g k k2 base : Nat} {vb v : Value} {bs ds : List Int} {wn : Int}
theorem DsAt.draw (h : DsAt W w g vb bs k v ds wn base wr) (hg : g < base) (hw : g < w.heap.size) (hgr : wr.grownBy wq (some g)) (hS : Src W wq g vb bs k2) : DsAt W w g vb bs k2 v ds wn base wq := by
  obtain ⟨b0, b1, ho, _, hG⟩ := h
  refine ⟨b0.grown hgr (by simp; omega), b1.grown hgr (by simp; omega), ho.kept hgr ?_, hS, grown_trans hG hgr⟩
  cases hv : v.ownBlock with
  | none => exact Or.inl rfl
  | some j => exact Or.inr fun e => by have := (ho.lt j hv).1; cases e; omega
theorem DsAt.below (h : DsAt W w g vb bs k v ds wn base wr) (hb : Below wr.heap.size wr wq) : DsAt W w g vb bs k v ds wn base wq := by
  obtain ⟨b0, b1, ho, hS, hG⟩ := h
  exact ⟨b0.below hb, b1.below hb, own_below ho hb, hS.below hb, grown_trans hG (grown_of_below hb _)⟩
theorem DsAt.mono (h : DsAt W w g vb bs k v ds wn base wr) (hk : k ≤ k2) : DsAt W w g vb bs k2 v ds wn base wr := ⟨h.1, h.2.1, h.2.2.1, h.2.2.2.1.mono hk, h.2.2.2.2⟩
theorem DsAt.set_ (h : DsAt W w g vb bs k v ds wn base wr) {p : Addr} (hp : w.heap.size + 1 < p.block) (hv : some p.block ≠ v.ownBlock) (hw : g < w.heap.size) (u : Value) : DsAt W w g vb bs k v ds wn base (wr.setCell p u) := by
  obtain ⟨b0, b1, ho, hS, hG⟩ := h
  have hWg := hS.2.1
  exact ⟨b0.far (by omega) _, b1.far (by omega) _, own_far ho hv _, hS.set_ (by omega) (by omega) _, grown_set hG (by omega) _⟩
end

set_option maxRecDepth 100000 in
set_option maxHeartbeats 8000000 in
theorem l21DrawState_any (W w : World) (g : Nat) (vb : Value) (bs : List Int) (k : Nat) (h : Src W w g vb bs k) (hk : k ≤ 100000) (v : Value) (ds : List Int) (wn : Int) (base : Nat) (hv : w.ownsRow base 2 1 v ds.length (I64 ds)) (hgb : g < base) :
    Calls Try.prog 34 #[.pointer (some ⟨g, 0, none⟩), .agg #[v, .int .i64 wn]] w fun e w' => ∃ m rd : Int, e = .returned (.agg #[.int .i64 m, .int .i64 rd]) ∧ Src W w' g vb bs (k + 100) ∧ w.grownBy w' (some g) := by
  have hg := h.lt
  have HVB : Hid (∀ j, v.ownBlock = some j → j < w.heap.size) := fun j hj => (hv.lt j hj).2
  obtain ⟨A, cv, rfl⟩ := own_form hv
  have HD0 : Hid (∀ wr, wr = (w.alloc (.cells #[.slice A ds.length cv, .int .i64 wn] 26)).alloc (.cells #[.int .i64 0, .int .i64 0] 28) → DsAt W w g vb bs k (.slice A ds.length cv) ds wn base wr) := by
    rintro wr rfl
    obtain ⟨k0, k1⟩ := bx2 w 26 28 #[.slice A ds.length cv, .int .i64 wn] #[.int .i64 0, .int .i64 0]
    exact ⟨k0, k1, own_below hv (by go_grown), h.below (by go_grown), grown_of_below (by go_grown) _⟩
  clear h hv
  go_enter Try.func34, Try.ntmps34
  go_wp2_with fail
  have D0 := Lib.hid (HD0.out _ rfl)
  refine (pick_any W _ g vb bs k D0.out.2.2.2.1 (by omega) _ (by omega)).mono ?_
  rintro e w1 ⟨x, ⟨x0, x1⟩, rfl, hs, hg1⟩
  have D1 := Lib.hid (D0.out.draw hgb hg hg1 hs)
  have x2 : x ≤ 719 := by omega
  clear hs hg1 D0 HD0 x1
  go_wp2_with fail
  refine (one_any W _ g vb bs _ D1.out.2.2.2.1 (by omega) _ (by omega)).mono ?_
  rintro e w2 ⟨b, rfl, hs, hg2⟩
  have D2 := Lib.hid (D1.out.draw hgb hg hg2 hs)
  clear hs hg2 D1
  go_upto_if 10 with fail
  go_cut [5] (fun a5 wr => ∃ m : Int, .int .i64 m = a5 ∧ (0 ≤ m ∧ m ≤ 719) ∧ DsAt W w g vb bs (k + 10) (.slice A ds.length cv) ds wn base wr)
  case first =>
    cases b with
    | false =>
      go_wp2_with fail
      go_meet
      exact ⟨_, rfl, ⟨x0, x2⟩, D2.out.mono (by omega)⟩
    | true =>
      have e0 : x.tdiv 60 = x / 60 := Int.tdiv_eq_ediv_of_nonneg x0
      have e1 : IntKind.i64.wrap (x / 60) = x / 60 := IntWalk.i64_in _ (by omega)
      have e2 : IntKind.i64.wrap (x / 60 * 60) = x / 60 * 60 := IntWalk.i64_in _ (by omega)
      have e3 : IntKind.i64.wrap (x / 60 * 60 + 59) = x / 60 * 60 + 59 := IntWalk.i64_in _ (by omega)
      go_wp2_with fail
      refine (pick_any W _ g vb bs _ D2.out.2.2.2.1 (by omega) _ (by omega)).mono ?_
      rintro e w3 ⟨y, ⟨y0, y1⟩, rfl, hs, hg3⟩
      have D3 := Lib.hid (D2.out.draw hgb hg hg3 hs)
      have y2 : y ≤ 29 := by omega
      clear hs hg3 y1
      go_wp2_with fail
      go_meet
      exact ⟨_, rfl, ⟨by omega, by omega⟩, D3.out.mono (by omega)⟩
  case rest =>
    obtain ⟨w3, rfl⟩ : ∃ x : World, x = wc := ⟨_, rfl⟩
    obtain ⟨m, rfl, ⟨m0, m1⟩, d3⟩ := hcut
    have D3 := Lib.hid d3
    have q0 := d3.1.cell 0 rfl
    have q1 := d3.1.cell 1 rfl
    have z0 := d3.2.1.lt
    clear d3 D2
    go_upto_region 5 with (fail)
    have nw : w.heap.size + 1 < w3.heap.size := z0
    have nz : w.heap.size < w3.heap.size := by omega
    have ow : Hid (Blk (w3.alloc (.cells #[.int .i64 m, .int .i64 0] 28)) w3.heap.size 28 #[.int .i64 m, .int .i64 0]) := Blk.new _ _ _
    have dw := Lib.hid (D3.out.below (wq := w3.alloc (.cells #[.int .i64 m, .int .i64 0] 28)) (by go_grown))
    go_cut [30] (fun a30 wr => ∃ b : Bool, .bool b = a30 ∧ (b = true → rkB ds wn = true) ∧ Blk wr w3.heap.size 28 #[.int .i64 m, .int .i64 0] ∧ DsAt W w g vb bs (k + 30) (.slice A ds.length cv) ds wn base wr)
    case first =>
      go_wp2_with fail
      refine (l21Ok_s _ ds wn _ (Sl.of_own dw.out.2.2.1)).mono ?_
      rintro e w4 ⟨rfl, hb4⟩
      have D4 := Lib.hid (dw.out.below hb4)
      have O4 := Lib.hid (ow.out.below hb4)
      clear hb4
      have q0 := D4.out.1.cell 0 rfl
      have q1 := D4.out.1.cell 1 rfl
      cases hok : rkB ds wn with
      | false =>
        clear hok
        go_wp2_with fail
        go_meet
        exact ⟨false, rfl, (fun h => by cases h), O4.out, D4.out.mono (by omega)⟩
      | true =>
        have HOKB := Lib.hid hok
        obtain ⟨hl12, _, w1', w2'⟩ := rkB_iff.1 hok
        clear hok hl12
        go_wp2_with fail
        refine (l21Warned_any _ wn m _ w1' w2' m0 m1).mono ?_
        rintro e w5 ⟨rfl, hb5⟩
        have D5 := Lib.hid (D4.out.below (Below.trans (by first | (with_reducible exact Below.refl _ _) | go_grown) hb5))
        have O5 := Lib.hid (O4.out.below (Below.trans (by first | (with_reducible exact Below.refl _ _) | go_grown) hb5))
        clear hb5 q0 q1
        cases hwd : decide (60 - wn ≤ m % 60) with
        | false =>
          clear hwd
          go_wp2_with fail
          go_meet
          exact ⟨false, rfl, (fun h => by cases h), O5.out, D5.out.mono (by omega)⟩
        | true =>
          clear hwd
          go_wp2_with fail
          refine (one_any W _ g vb bs _ (D5.out.2.2.2.1) (by omega) _ (by omega)).mono ?_
          rintro e w6 ⟨b, rfl, hs, hg6⟩
          have D6 := Lib.hid (D5.out.draw hgb hg hg6 hs)
          have O6 := Lib.hid (O5.out.grown hg6 (by first | (simp; done) | (simp; omega)))
          clear hs hg6
          go_wp2_with fail
          go_meet
          exact ⟨b, rfl, (fun _ => HOKB.out), O6.out, D6.out.mono (by omega)⟩
    case rest =>
      obtain ⟨w6, rfl⟩ : ∃ x : World, x = wc := ⟨_, rfl⟩
      obtain ⟨b, rfl, hb, o6, d6⟩ := hcut
      have D6 := Lib.hid d6
      have O6 := Lib.hid o6
      have HOKB := Lib.hid hb
      clear d6 o6 hb ow dw D3 q0 q1
      go_upto_if 30 with fail
      go_cut [] (fun wr => ∃ rd : Int, Blk wr w3.heap.size 28 #[.int .i64 m, .int .i64 rd] ∧ DsAt W w g vb bs (k + 40) (.slice A ds.length cv) ds wn base wr)
      case first =>
        cases b with
        | false =>
          go_wp2_with fail
          go_meet
          exact ⟨_, O6.out, D6.out.mono (by omega)⟩
        | true =>
          obtain ⟨hl12, _, w1', w2'⟩ := rkB_iff.1 (HOKB.out rfl)
          have HL12 := Lib.hid hl12
          clear hl12
          have hsn : 0 ≤ snail wn m ∧ snail wn m < 12 := by unfold snail; omega
          obtain ⟨sn0, sn1⟩ := hsn
          obtain ⟨bv, cv', hA, _⟩ := D6.out.2.2.1.form (by have := HL12.out; omega)
          injection hA with hA1 hA2 hA3
          subst hA1 hA3
          have hle : (snail wn m).toNat < ds.length := by have := HL12.out; omega
          have hli : snail wn m < (ds.length : Int) := by have := HL12.out; omega
          have HSr := Lib.hid (fun (w' : World) (hb : Below w6.heap.size w6 w') => (⟨(D6.out.below hb).1.cell 0 rfl, (D6.out.below hb).1.cell 1 rfl, ((D6.out.below hb).2.2.1.cellAt (snail wn m).toNat (by rw [Nat.mul_one]; exact hle)).trans (I64_get hle)⟩ : w'.cell? ⟨w.heap.size, 0, none⟩ = some (.slice (some ⟨bv, 0, none⟩) ds.length cv) ∧ w'.cell? ⟨w.heap.size, 1, none⟩ = some (.int .i64 wn) ∧ w'.cell? ⟨bv, (snail wn m).toNat, none⟩ = some (.int .i64 (ix ds (snail wn m).toNat))))
          obtain ⟨c0, c1, c2⟩ := HSr.out w6 (Below.refl _ _)
          have r0 := O6.out.cell 0 rfl
          have r1 := O6.out.cell 1 rfl
          have rf1 := O6.out.frozen 1
          have zr := O6.out.lt
          have hbv := HVB.out bv rfl
          have n1 : ¬ w3.heap.size = w.heap.size := by omega
          have n2 : ¬ w3.heap.size = bv := by omega
          clear hle
          go_wp2_with fail
          go_region_held3 (fun w' => w'.cell? ⟨w.heap.size, 0, none⟩ = some (.slice (some ⟨bv, 0, none⟩) ds.length cv) ∧ w'.cell? ⟨w.heap.size, 1, none⟩ = some (.int .i64 wn) ∧ w'.cell? ⟨bv, (snail wn m).toNat, none⟩ = some (.int .i64 (ix ds (snail wn m).toNat))) (first | assumption | (refine HSr.out _ ?_; go_grown; done) | ((try dsimp only); (repeat' apply And.intro) <;> (first | assumption | (simp [go_sem, *]; done))) | go_keep)
            (first
              | (go_at_call 28; refine (l21Hour_any _ wn m _ w1' w2' m0 m1).mono ?_; rintro e w7 ⟨rfl, hb7⟩; have B7 : Below w6.heap.size w6 w7 := Below.trans (by first | (with_reducible exact Below.refl _ _) | go_grown) (hb7.mono (by simp)); have S7 := HSr.out _ B7; have D7 := Lib.hid (D6.out.below B7); have O7 := Lib.hid (O6.out.below B7); have r0 := O7.out.cell 0 rfl; have r1 := O7.out.cell 1 rfl; have rf1 := O7.out.frozen 1; have zr := O7.out.lt; clear hb7 B7))
          all_goals
            go_wp2_with fail
            go_meet
          all_goals exact ⟨_, O7.out.set_ 1 _, (D7.out.set_ (p := ⟨w3.heap.size, 1, none⟩) (show _ < _ from nw) (fun e => by simp [Value.ownBlock] at e; omega) hg _).mono (by omega)⟩
      case rest =>
        obtain ⟨w4, rfl⟩ : ∃ x : World, x = wc := ⟨_, rfl⟩
        obtain ⟨rd, o4, d4⟩ := hcut
        have D4 := Lib.hid d4
        have O4 := Lib.hid o4
        clear d4 o4 D6 O6 HOKB
        go_wp2_with fail
        refine (pick_any W _ g vb bs _ D4.out.2.2.2.1 (by omega) _ (by omega)).mono ?_
        rintro e w5 ⟨y, ⟨y0, y1⟩, rfl, hs, hg5⟩
        have D5 := Lib.hid (D4.out.draw hgb hg hg5 hs)
        have O5 := Lib.hid (O4.out.grown hg5 (by first | (simp; done) | (simp; omega)))
        clear hs hg5 y1
        have n1 : ¬ w3.heap.size = w.heap.size + 1 := by omega
        have n2 : ¬ w.heap.size + 1 = w3.heap.size := by omega
        have hWg := D5.out.2.2.2.1.2.1
        by_cases h0 : y = 0
        · subst h0
          go_wp2_with fail
          have k3 : Blk (w5.alloc (.cells #[.int .i64 (-1), .int .i64 719, .int .i64 720] 2)) w5.heap.size 2 #[.int .i64 (-1), .int .i64 719, .int .i64 720] := Blk.new _ _ _
          refine (among_any W _ g vb bs _ (D5.out.2.2.2.1.below (by go_grown)) (by omega) w5.heap.size [-1, 719, 720] 3 (by decide) (by have := D5.out.2.2.2.1.lt; omega) (by decide) (by decide) (cell3 k3) k3.lt).mono ?_
          rintro e w6 ⟨x6, hx6, rfl, hs, hg6⟩
          have D6 := Lib.hid ((D5.out.below (wq := w5.alloc (.cells #[.int .i64 (-1), .int .i64 719, .int .i64 720] 2)) (by go_grown)).draw hgb hg hg6 hs)
          have O6 := Lib.hid ((O5.out.alloc (.cells #[.int .i64 (-1), .int .i64 719, .int .i64 720] 2)).grown hg6 (by first | (simp; done) | (simp; omega)))
          clear hs hg6 hx6 k3
          have p0 := D6.out.2.1.cell 0 rfl
          have p1 := D6.out.2.1.cell 1 rfl
          have pf0 := D6.out.2.1.frozen 0
          have pf1 := D6.out.2.1.frozen 1
          have r0 := O6.out.cell 0 rfl
          have r1 := O6.out.cell 1 rfl
          have rf0 := O6.out.frozen 0
          have rf1 := O6.out.frozen 1
          have zp := D6.out.2.1.lt
          have zr := O6.out.lt

          go_wp2
          try simp only [Exit.inBlock, Exit.then]
          refine bodyPost_ret (v := .agg #[.int .i64 (x6), .int .i64 (rd)]) ?_ rfl ?_
          · simp [results, Try.results34, go_sem, *]
          refine ⟨_, _, rfl, ?_, ?_⟩
          · (repeat' (first | refine Src.set_ ?_ (by first | (simp; done) | (simp; omega)) (by first | (simp; done) | (simp; omega)) _))
            exact D6.out.2.2.2.1.mono (by omega)
          · (repeat' (first | refine grown_set ?_ (by first | (simp; done) | (simp; omega)) _))
            exact D6.out.2.2.2.2

        · have hq0 : (y == 0) = false := by simpa using h0
          by_cases h1 : y = 1
          · subst h1
            go_wp2_with fail
            refine (pick_any W _ g vb bs _ D5.out.2.2.2.1 (by omega) _ (by omega)).mono ?_
            rintro e w6 ⟨y2, ⟨y20, y21⟩, rfl, hs, hg6⟩
            have D6 := Lib.hid (D5.out.draw hgb hg hg6 hs)
            have O6 := Lib.hid (O5.out.grown hg6 (by first | (simp; done) | (simp; omega)))
            have y22 : y2 ≤ 3 := by omega
            clear hs hg6 y21
            have p0 := D6.out.2.1.cell 0 rfl
            have p1 := D6.out.2.1.cell 1 rfl
            have pf0 := D6.out.2.1.frozen 0
            have pf1 := D6.out.2.1.frozen 1
            have r0 := O6.out.cell 0 rfl
            have r1 := O6.out.cell 1 rfl
            have rf0 := O6.out.frozen 0
            have rf1 := O6.out.frozen 1
            have zp := D6.out.2.1.lt
            have zr := O6.out.lt

            go_wp2
            try simp only [Exit.inBlock, Exit.then]
            refine bodyPost_ret (v := .agg #[.int .i64 (m), .int .i64 (y2 - 1)]) ?_ rfl ?_
            · simp [results, Try.results34, go_sem, *]
            refine ⟨_, _, rfl, ?_, ?_⟩
            · (repeat' (first | refine Src.set_ ?_ (by first | (simp; done) | (simp; omega)) (by first | (simp; done) | (simp; omega)) _))
              exact D6.out.2.2.2.1.mono (by omega)
            · (repeat' (first | refine grown_set ?_ (by first | (simp; done) | (simp; omega)) _))
              exact D6.out.2.2.2.2

          · have hq1 : (y == 1) = false := by simpa using h1
            have p0 := D5.out.2.1.cell 0 rfl
            have p1 := D5.out.2.1.cell 1 rfl
            have pf0 := D5.out.2.1.frozen 0
            have pf1 := D5.out.2.1.frozen 1
            have r0 := O5.out.cell 0 rfl
            have r1 := O5.out.cell 1 rfl
            have rf0 := O5.out.frozen 0
            have rf1 := O5.out.frozen 1
            have zp := D5.out.2.1.lt
            have zr := O5.out.lt

            go_wp2
            try simp only [Exit.inBlock, Exit.then]
            refine bodyPost_ret (v := .agg #[.int .i64 (m), .int .i64 (rd)]) ?_ rfl ?_
            · simp [results, Try.results34, go_sem, *]
            refine ⟨_, _, rfl, ?_, ?_⟩
            · (repeat' (first | refine Src.set_ ?_ (by first | (simp; done) | (simp; omega)) (by first | (simp; done) | (simp; omega)) _))
              exact D5.out.2.2.2.1.mono (by omega)
            · (repeat' (first | refine grown_set ?_ (by first | (simp; done) | (simp; omega)) _))
              exact D5.out.2.2.2.2

end Go.Proofs.Ytdlegcjcmhpbcaa
