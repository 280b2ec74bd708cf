/- Hands: what the draws of whole cases give: some wheel, some state or two, some text. (Written by gen_drk.py.) -/
import Derived.Test.YtfddibdncniekaaDoorDrJ
import Derived.Deep.RegionHeld3
namespace Go.Proofs.YtfddibdncniekaaDoor
open Go.RowKit
attribute [local go_sem ↓] Go.wp_at_zero Go.wp_at_succ

theorem l00From_b (vb : Value) (bs : List Int) (W w : World) (hv : SlB W vb bs) (hb : Below W.heap.size W w) (g : Nat) (hg : w.heap.size = g) :
    Calls Tryd.prog 65 #[vb] w fun e w' => e = .returned (.pointer (some ⟨g, 0, none⟩)) ∧ Src W w' g vb bs 0 ∧ Below w.heap.size w w' := by
  subst hg
  refine (l00From_any vb bs w (hv.below hb)).mono ?_
  rintro e w' ⟨rfl, h1, h2, h3, h4⟩
  exact ⟨rfl, ⟨hv, hb.size, hb.trans (h3.mono hb.size), h4⟩, h3⟩
def txC : Array Value := #[.string ⟨#[102]⟩, .string ⟨#[102, 98]⟩, .string ⟨#[98, 102]⟩, .string ⟨#[108]⟩, .string ⟨#[102, 108]⟩, .string ⟨#[98, 108]⟩, .string ⟨#[98]⟩, .string ⟨#[]⟩, .string ⟨#[98, 102, 108]⟩, .string ⟨#[102, 102, 108]⟩, .string ⟨#[120]⟩, .string ⟨#[102, 98, 120]⟩]
theorem txC_ok : ∀ j, j < txC.size → ∃ t : ByteArray, t.size ≤ 3 ∧ txC[j]? = some (.string t) := fun j hj => by
  have hj' : j < 12 := hj
  rcases (show j = 0 ∨ j = 1 ∨ j = 2 ∨ j = 3 ∨ j = 4 ∨ j = 5 ∨ j = 6 ∨ j = 7 ∨ j = 8 ∨ j = 9 ∨ j = 10 ∨ j = 11 by omega) with rfl | rfl | rfl | rfl | rfl | rfl | rfl | rfl | rfl | rfl | rfl | rfl
  · exact ⟨⟨#[102]⟩, by decide, rfl⟩
  · exact ⟨⟨#[102, 98]⟩, by decide, rfl⟩
  · exact ⟨⟨#[98, 102]⟩, by decide, rfl⟩
  · exact ⟨⟨#[108]⟩, by decide, rfl⟩
  · exact ⟨⟨#[102, 108]⟩, by decide, rfl⟩
  · exact ⟨⟨#[98, 108]⟩, by decide, rfl⟩
  · exact ⟨⟨#[98]⟩, by decide, rfl⟩
  · exact ⟨⟨#[]⟩, by decide, rfl⟩
  · exact ⟨⟨#[98, 102, 108]⟩, by decide, rfl⟩
  · exact ⟨⟨#[102, 102, 108]⟩, by decide, rfl⟩
  · exact ⟨⟨#[120]⟩, by decide, rfl⟩
  · exact ⟨⟨#[102, 98, 120]⟩, by decide, rfl⟩

set_option maxHeartbeats 4000000 in
theorem l23DrawSet_any (W w : World) (g : Nat) (vb : Value) (bs : List Int) (k : Nat) (h : Src W w g vb bs k) (hk : k ≤ 100000) :
    Calls Tryd.prog 75 #[.pointer (some ⟨g, 0, none⟩)] w (TextP W w g vb bs (k + 200) 300) := by
  have HP : Hid (∀ e w', (∃ t : ByteArray, e = .returned (.string t) ∧ t.size ≤ 300 ∧ Src W w' g vb bs (k + 200) ∧ w.grownBy w' (some g)) → TextP W w g vb bs (k + 200) 300 e w') := fun e w' h => h
  have hg := h.lt
  have k3 : Blk (w.alloc (.cells txC 9)) w.heap.size 9 txC := Blk.new _ _ _
  have K3 := Lib.hid (lit_txt k3 txC_ok)
  have Z3 := Lib.hid k3.lt
  have S3 := Lib.hid (h.below (w' := w.alloc (.cells txC 9)) (by go_grown))
  have G3 := Lib.hid (grown_of_below (show Below w.heap.size w (w.alloc (.cells txC 9)) by go_grown) (some g))
  clear k3 h
  go_enter Tryd.func75, Tryd.ntmps75
  go_wp2_with fail
  refine (text_any W (w.alloc (.cells txC 9)) g vb bs _ S3.out (by omega) w.heap.size 12 12 3 (by decide) (by omega) (by decide) (by decide) K3.out Z3.out).mono ?_
  rintro e w7 ⟨u, hu, rfl, hs, hg7⟩
  have S7 := Lib.hid hs
  have G7 := Lib.hid (grown_trans G3.out hg7)
  clear hs hg7 K3 Z3 S3 G3
  go_wp2_with fail
  go_ret
  exact HP.out _ _ ⟨u, rfl, by omega, S7.out.mono (by omega), G7.out⟩
def AllP (W : World) (e : Ending) (w' : World) : Prop := ∃ (v : Value) (gs : List Int) (h0 q0 : Int) (t : ByteArray), e = .returned (.tuple #[.agg #[v], .agg #[.int .i64 h0, .int .i64 q0], .string t]) ∧ w'.ownsRow W.heap.size 2 1 v gs.length (I64 gs) ∧ gs.length ≤ 100 ∧ t.size ≤ 300 ∧ Below W.heap.size W w'

set_option maxRecDepth 100000 in
set_option maxHeartbeats 8000000 in
theorem l23DrawAll_any (vb : Value) (bs : List Int) (W : World) (hv : SlB W vb bs) :
    Calls Tryd.prog 76 #[vb] W (AllP W) := by
  have HP : Hid (∀ e w', (∃ (v : Value) (gs : List Int) (h0 q0 : Int) (t : ByteArray), e = .returned (.tuple #[.agg #[v], .agg #[.int .i64 h0, .int .i64 q0], .string t]) ∧ w'.ownsRow W.heap.size 2 1 v gs.length (I64 gs) ∧ gs.length ≤ 100 ∧ t.size ≤ 300 ∧ Below W.heap.size W w') → AllP W e w') := fun e w' h => h
  have HV := Lib.hid (fun w (hb : Below W.heap.size W w) g (hg : w.heap.size = g) => l00From_b vb bs W w hv hb g hg)
  clear hv
  go_enter Tryd.func76, Tryd.ntmps76
  have HK := Lib.hid (bx2 W 31 28 #[.slice none 0 0] #[.int .i64 0, .int .i64 0])
  go_wp2_with fail
  refine (HV.out _ (by go_grown) (W.heap.size + 1 + 1) (by simp)).mono ?_
  rintro e w1 ⟨rfl, hs, hb1⟩
  have R0 := Lib.hid (HK.out.1.below hb1)
  have R1 := Lib.hid (HK.out.2.below hb1)
  have z1 : W.heap.size + 1 + 1 < w1.heap.size := hs.lt
  have HS := Lib.hid hs
  clear hs hb1 HK HV
  go_wp2_with fail
  refine (l23DrawWheel_any W _ _ vb bs 0 HS.out (by omega)).mono ?_
  rintro e w2 ⟨v, gs, rfl, ho, hl, hs, hg2⟩
  obtain ⟨A, cv, rfl⟩ := own_form ho
  have z2 := hg2.size
  replace R0 := Lib.hid (R0.out.grown hg2 (by first | (simp; done) | (simp; omega) | omega))
  replace R1 := Lib.hid (R1.out.grown hg2 (by first | (simp; done) | (simp; omega) | omega))
  have HO := Lib.hid ho
  have HL := Lib.hid hl
  replace HS := Lib.hid hs
  clear hs hg2 ho hl
  have dw : Below w2.heap.size w2 (w2.alloc (.cells #[.slice A gs.length cv] 31)) := by go_grown
  replace R0 := Lib.hid (R0.out.below dw)
  replace R1 := Lib.hid (R1.out.below dw)
  replace HO := Lib.hid (own_below HO.out dw)
  replace HS := Lib.hid (HS.out.below dw)
  have BW : Hid (Blk (w2.alloc (.cells #[.slice A gs.length cv] 31)) w2.heap.size 31 #[.slice A gs.length cv]) := Blk.new _ _ _
  clear dw
  have qw := BW.out.cell 0 rfl
  go_wp2_with fail
  refine (l23DrawState_any W _ _ vb bs _ HS.out (by omega) w1.heap.size _ gs HO.out (by omega) (by first | omega | (simp; omega)) (by have := HL.out; omega)).mono ?_
  rintro e w3 ⟨h0, q0, rfl, hs, hg⟩
  have z3 := hg.size
  simp only [World.size_alloc] at z3
  replace R0 := Lib.hid (R0.out.grown hg (by first | (simp; done) | (simp; omega) | omega))
  replace R1 := Lib.hid (R1.out.grown hg (by first | (simp; done) | (simp; omega) | omega))
  replace BW := Lib.hid (BW.out.grown hg (by first | (simp; done) | (simp; omega) | omega))
  replace HO := Lib.hid (HO.out.kept hg (own_apart HO.out (by omega)))
  replace HS := Lib.hid hs
  clear hs hg qw
  have dw : Below w3.heap.size w3 (w3.alloc (.cells #[.int .i64 h0, .int .i64 q0] 28)) := by go_grown
  replace R0 := Lib.hid (R0.out.below dw)
  replace R1 := Lib.hid (R1.out.below dw)
  replace BW := Lib.hid (BW.out.below dw)
  replace HO := Lib.hid (own_below HO.out dw)
  replace HS := Lib.hid (HS.out.below dw)
  have BS0 : Hid (Blk (w3.alloc (.cells #[.int .i64 h0, .int .i64 q0] 28)) w3.heap.size 28 #[.int .i64 h0, .int .i64 q0]) := Blk.new _ _ _
  clear dw
  have s0 := BW.out.cell 0 rfl
  have s1 := BS0.out.cell 0 rfl
  have s2 := BS0.out.cell 1 rfl
  have HSr := Lib.hid (fun (w' : World) (G : (w3.alloc (.cells #[.int .i64 h0, .int .i64 q0] 28)).grownBy w' (some (W.heap.size + 1 + 1))) => (⟨(BW.out.grown G (by first | (simp; done) | (simp; omega) | omega)).cell 0 rfl, (BS0.out.grown G (by first | (simp; done) | (simp; omega) | omega)).cell 0 rfl, (BS0.out.grown G (by first | (simp; done) | (simp; omega) | omega)).cell 1 rfl⟩ : w'.cell? ⟨w2.heap.size, 0, none⟩ = some (.slice A gs.length cv) ∧ w'.cell? ⟨w3.heap.size, 0, none⟩ = some (.int .i64 h0) ∧ w'.cell? ⟨w3.heap.size, 1, none⟩ = some (.int .i64 q0)))
  have ne0 : ¬ w2.heap.size = W.heap.size := by omega
  have ne1 : ¬ W.heap.size = w2.heap.size := by omega
  have ne2 : ¬ w2.heap.size = W.heap.size + 1 := by omega
  have ne3 : ¬ W.heap.size + 1 = w2.heap.size := by omega
  have ne4 : ¬ w3.heap.size = W.heap.size := by omega
  have ne5 : ¬ W.heap.size = w3.heap.size := by omega
  have ne6 : ¬ w3.heap.size = W.heap.size + 1 := by omega
  have ne7 : ¬ W.heap.size + 1 = w3.heap.size := by omega
  have SB := HSr.out _ (World.grownBy.refl _ _)
  go_wp2_with fail
  go_region_held3 (fun w' => w'.cell? ⟨w2.heap.size, 0, none⟩ = some (.slice A gs.length cv) ∧ w'.cell? ⟨w3.heap.size, 0, none⟩ = some (.int .i64 h0) ∧ w'.cell? ⟨w3.heap.size, 1, none⟩ = some (.int .i64 q0)) (first | exact SB | exact SS | (refine HSr.out _ (grown_of_below ?_ _); (first | (with_reducible exact Below.refl _ _) | go_grown); done) | ((try dsimp only); (repeat' apply And.intro) <;> (first | assumption | (simp [go_sem, *]; done))) | go_keep)
    ((go_at_call 75; refine (l23DrawSet_any W _ _ vb bs _ (HS.out.below (by first | (with_reducible exact Below.refl _ _) | go_grown)) (by omega)).mono ?_; rintro e w9 ⟨t, rfl, ht, hs, hg⟩; have G : (w3.alloc (.cells #[.int .i64 h0, .int .i64 q0] 28)).grownBy w9 (some (W.heap.size + 1 + 1)) := grown_trans (grown_of_below (by first | (with_reducible exact Below.refl _ _) | go_grown) _) hg; have SS := HSr.out _ G; have TR0 := Lib.hid (R0.out.grown G (by first | (simp; done) | (simp; omega) | omega)); have TR1 := Lib.hid (R1.out.grown G (by first | (simp; done) | (simp; omega) | omega)); have TBW := Lib.hid (BW.out.grown G (by first | (simp; done) | (simp; omega) | omega)); have TBS0 := Lib.hid (BS0.out.grown G (by first | (simp; done) | (simp; omega) | omega)); have r0_0 := TR0.out.cell 0 rfl; have rf0_0 := TR0.out.frozen 0; have rz0 := TR0.out.lt; have r1_0 := TR1.out.cell 0 rfl; have rf1_0 := TR1.out.frozen 0; have r1_1 := TR1.out.cell 1 rfl; have rf1_1 := TR1.out.frozen 1; have rz1 := TR1.out.lt; have TO := Lib.hid (HO.out.kept G (own_apart HO.out (by omega))); have TS := Lib.hid hs; have HT := Lib.hid ht; clear hs hg G ht))
  all_goals
    go_wp2
    try simp only [Exit.inBlock, Exit.then]
    refine bodyPost_ret (v := .tuple #[.agg #[.slice A gs.length cv], .agg #[.int .i64 h0, .int .i64 q0], .string t]) ?_ rfl ?_
    · simp [results, Tryd.results76, go_sem, r0_0, r1_0, r1_1]
    · refine HP.out _ _ ⟨_, gs, _, _, _, rfl, ?_, HL.out, HT.out, ?_⟩
      · exact own_mono (own_setCell (own_setCell (own_setCell TO.out (by first | (simp; done) | (simp; omega) | omega) _) (by first | (simp; done) | (simp; omega) | omega) _) (by first | (simp; done) | (simp; omega) | omega) _) (by omega)
      · have := TS.out.old
        go_grown

set_option maxRecDepth 100000 in
set_option maxHeartbeats 8000000 in
theorem DrawMoveHands_any (vb : Value) (bs : List Int) (W : World) (hv : SlB W vb bs) :
    Calls Tryd.prog 30 #[vb] W (AllP W) := by
  have HP : Hid (∀ e w', (∃ (v : Value) (gs : List Int) (h0 q0 : Int) (t : ByteArray), e = .returned (.tuple #[.agg #[v], .agg #[.int .i64 h0, .int .i64 q0], .string t]) ∧ w'.ownsRow W.heap.size 2 1 v gs.length (I64 gs) ∧ gs.length ≤ 100 ∧ t.size ≤ 300 ∧ Below W.heap.size W w') → AllP W e w') := fun e w' h => h
  have HV := Lib.hid (fun w (hb : Below W.heap.size W w) g (hg : w.heap.size = g) => l00From_b vb bs W w hv hb g hg)
  clear hv
  go_enter Tryd.func30, Tryd.ntmps30
  have HK := Lib.hid (bx2 W 31 28 #[.slice none 0 0] #[.int .i64 0, .int .i64 0])
  go_wp2_with fail
  refine (HV.out _ (by go_grown) (W.heap.size + 1 + 1) (by simp)).mono ?_
  rintro e w1 ⟨rfl, hs, hb1⟩
  have R0 := Lib.hid (HK.out.1.below hb1)
  have R1 := Lib.hid (HK.out.2.below hb1)
  have z1 : W.heap.size + 1 + 1 < w1.heap.size := hs.lt
  have HS := Lib.hid hs
  clear hs hb1 HK HV
  go_wp2_with fail
  refine (l23DrawWheel_any W _ _ vb bs 0 HS.out (by omega)).mono ?_
  rintro e w2 ⟨v, gs, rfl, ho, hl, hs, hg2⟩
  obtain ⟨A, cv, rfl⟩ := own_form ho
  have z2 := hg2.size
  replace R0 := Lib.hid (R0.out.grown hg2 (by first | (simp; done) | (simp; omega) | omega))
  replace R1 := Lib.hid (R1.out.grown hg2 (by first | (simp; done) | (simp; omega) | omega))
  have HO := Lib.hid ho
  have HL := Lib.hid hl
  replace HS := Lib.hid hs
  clear hs hg2 ho hl
  have dw : Below w2.heap.size w2 (w2.alloc (.cells #[.slice A gs.length cv] 31)) := by go_grown
  replace R0 := Lib.hid (R0.out.below dw)
  replace R1 := Lib.hid (R1.out.below dw)
  replace HO := Lib.hid (own_below HO.out dw)
  replace HS := Lib.hid (HS.out.below dw)
  have BW : Hid (Blk (w2.alloc (.cells #[.slice A gs.length cv] 31)) w2.heap.size 31 #[.slice A gs.length cv]) := Blk.new _ _ _
  clear dw
  have qw := BW.out.cell 0 rfl
  go_wp2_with fail
  refine (l23DrawState_any W _ _ vb bs _ HS.out (by omega) w1.heap.size _ gs HO.out (by omega) (by first | omega | (simp; omega)) (by have := HL.out; omega)).mono ?_
  rintro e w3 ⟨h0, q0, rfl, hs, hg⟩
  have z3 := hg.size
  simp only [World.size_alloc] at z3
  replace R0 := Lib.hid (R0.out.grown hg (by first | (simp; done) | (simp; omega) | omega))
  replace R1 := Lib.hid (R1.out.grown hg (by first | (simp; done) | (simp; omega) | omega))
  replace BW := Lib.hid (BW.out.grown hg (by first | (simp; done) | (simp; omega) | omega))
  replace HO := Lib.hid (HO.out.kept hg (own_apart HO.out (by omega)))
  replace HS := Lib.hid hs
  clear hs hg qw
  have dw : Below w3.heap.size w3 (w3.alloc (.cells #[.int .i64 h0, .int .i64 q0] 28)) := by go_grown
  replace R0 := Lib.hid (R0.out.below dw)
  replace R1 := Lib.hid (R1.out.below dw)
  replace BW := Lib.hid (BW.out.below dw)
  replace HO := Lib.hid (own_below HO.out dw)
  replace HS := Lib.hid (HS.out.below dw)
  have BS0 : Hid (Blk (w3.alloc (.cells #[.int .i64 h0, .int .i64 q0] 28)) w3.heap.size 28 #[.int .i64 h0, .int .i64 q0]) := Blk.new _ _ _
  clear dw
  go_wp2_with fail
  refine (one_any W _ _ vb bs _ HS.out (by omega) _ (by omega)).mono ?_
  rintro e w8 ⟨b, rfl, hs, hg⟩
  have z8 := hg.size
  simp only [World.size_alloc] at z8
  replace R0 := Lib.hid (R0.out.grown hg (by first | (simp; done) | (simp; omega) | omega))
  replace R1 := Lib.hid (R1.out.grown hg (by first | (simp; done) | (simp; omega) | omega))
  replace BW := Lib.hid (BW.out.grown hg (by first | (simp; done) | (simp; omega) | omega))
  replace BS0 := Lib.hid (BS0.out.grown hg (by first | (simp; done) | (simp; omega) | omega))
  replace HO := Lib.hid (HO.out.kept hg (own_apart HO.out (by omega)))
  replace HS := Lib.hid hs
  clear hs hg
  cases b with
  | true =>
    have s0 := BW.out.cell 0 rfl
    have s1 := BS0.out.cell 0 rfl
    have s2 := BS0.out.cell 1 rfl
    have HSr := Lib.hid (fun (w' : World) (G : (w8).grownBy w' (some (W.heap.size + 1 + 1))) => (⟨(BW.out.grown G (by first | (simp; done) | (simp; omega) | omega)).cell 0 rfl, (BS0.out.grown G (by first | (simp; done) | (simp; omega) | omega)).cell 0 rfl, (BS0.out.grown G (by first | (simp; done) | (simp; omega) | omega)).cell 1 rfl⟩ : w'.cell? ⟨w2.heap.size, 0, none⟩ = some (.slice A gs.length cv) ∧ w'.cell? ⟨w3.heap.size, 0, none⟩ = some (.int .i64 h0) ∧ w'.cell? ⟨w3.heap.size, 1, none⟩ = some (.int .i64 q0)))
    have ne0 : ¬ w2.heap.size = W.heap.size := by omega
    have ne1 : ¬ W.heap.size = w2.heap.size := by omega
    have ne2 : ¬ w2.heap.size = W.heap.size + 1 := by omega
    have ne3 : ¬ W.heap.size + 1 = w2.heap.size := by omega
    have ne4 : ¬ w3.heap.size = W.heap.size := by omega
    have ne5 : ¬ W.heap.size = w3.heap.size := by omega
    have ne6 : ¬ w3.heap.size = W.heap.size + 1 := by omega
    have ne7 : ¬ W.heap.size + 1 = w3.heap.size := by omega
    have SB := HSr.out _ (World.grownBy.refl _ _)
    go_wp2_with fail
    go_region_held3 (fun w' => w'.cell? ⟨w2.heap.size, 0, none⟩ = some (.slice A gs.length cv) ∧ w'.cell? ⟨w3.heap.size, 0, none⟩ = some (.int .i64 h0) ∧ w'.cell? ⟨w3.heap.size, 1, none⟩ = some (.int .i64 q0)) (first | exact SB | exact SS | (refine HSr.out _ (grown_of_below ?_ _); (first | (with_reducible exact Below.refl _ _) | go_grown); done) | ((try dsimp only); (repeat' apply And.intro) <;> (first | assumption | (simp [go_sem, *]; done))) | go_keep)
      ((go_at_call 69; refine (l23DrawActions_any W _ _ vb bs _ (HS.out.below (by first | (with_reducible exact Below.refl _ _) | go_grown)) (by omega) 62 (by omega) (by omega)).mono ?_; rintro e w9 ⟨t, rfl, ht, hs, hg⟩; have G : (w8).grownBy w9 (some (W.heap.size + 1 + 1)) := grown_trans (grown_of_below (by first | (with_reducible exact Below.refl _ _) | go_grown) _) hg; have SS := HSr.out _ G; have TR0 := Lib.hid (R0.out.grown G (by first | (simp; done) | (simp; omega) | omega)); have TR1 := Lib.hid (R1.out.grown G (by first | (simp; done) | (simp; omega) | omega)); have TBW := Lib.hid (BW.out.grown G (by first | (simp; done) | (simp; omega) | omega)); have TBS0 := Lib.hid (BS0.out.grown G (by first | (simp; done) | (simp; omega) | omega)); have r0_0 := TR0.out.cell 0 rfl; have rf0_0 := TR0.out.frozen 0; have rz0 := TR0.out.lt; have r1_0 := TR1.out.cell 0 rfl; have rf1_0 := TR1.out.frozen 0; have r1_1 := TR1.out.cell 1 rfl; have rf1_1 := TR1.out.frozen 1; have rz1 := TR1.out.lt; have TO := Lib.hid (HO.out.kept G (own_apart HO.out (by omega))); have TS := Lib.hid hs; have HT := Lib.hid ht; clear hs hg G ht))
    all_goals
      go_wp2
      try simp only [Exit.inBlock, Exit.then]
      refine bodyPost_ret (v := .tuple #[.agg #[.slice A gs.length cv], .agg #[.int .i64 h0, .int .i64 q0], .string t]) ?_ rfl ?_
      · simp [results, Tryd.results30, go_sem, r0_0, r1_0, r1_1]
      · refine HP.out _ _ ⟨_, gs, _, _, _, rfl, ?_, HL.out, HT.out, ?_⟩
        · exact own_mono (own_setCell (own_setCell (own_setCell TO.out (by first | (simp; done) | (simp; omega) | omega) _) (by first | (simp; done) | (simp; omega) | omega) _) (by first | (simp; done) | (simp; omega) | omega) _) (by omega)
        · have := TS.out.old
          go_grown
  | false =>
    have s0 := BW.out.cell 0 rfl
    have s1 := BS0.out.cell 0 rfl
    have s2 := BS0.out.cell 1 rfl
    have HSr := Lib.hid (fun (w' : World) (G : (w8).grownBy w' (some (W.heap.size + 1 + 1))) => (⟨(BW.out.grown G (by first | (simp; done) | (simp; omega) | omega)).cell 0 rfl, (BS0.out.grown G (by first | (simp; done) | (simp; omega) | omega)).cell 0 rfl, (BS0.out.grown G (by first | (simp; done) | (simp; omega) | omega)).cell 1 rfl⟩ : w'.cell? ⟨w2.heap.size, 0, none⟩ = some (.slice A gs.length cv) ∧ w'.cell? ⟨w3.heap.size, 0, none⟩ = some (.int .i64 h0) ∧ w'.cell? ⟨w3.heap.size, 1, none⟩ = some (.int .i64 q0)))
    have ne0 : ¬ w2.heap.size = W.heap.size := by omega
    have ne1 : ¬ W.heap.size = w2.heap.size := by omega
    have ne2 : ¬ w2.heap.size = W.heap.size + 1 := by omega
    have ne3 : ¬ W.heap.size + 1 = w2.heap.size := by omega
    have ne4 : ¬ w3.heap.size = W.heap.size := by omega
    have ne5 : ¬ W.heap.size = w3.heap.size := by omega
    have ne6 : ¬ w3.heap.size = W.heap.size + 1 := by omega
    have ne7 : ¬ W.heap.size + 1 = w3.heap.size := by omega
    have SB := HSr.out _ (World.grownBy.refl _ _)
    go_wp2_with fail
    go_region_held3 (fun w' => w'.cell? ⟨w2.heap.size, 0, none⟩ = some (.slice A gs.length cv) ∧ w'.cell? ⟨w3.heap.size, 0, none⟩ = some (.int .i64 h0) ∧ w'.cell? ⟨w3.heap.size, 1, none⟩ = some (.int .i64 q0)) (first | exact SB | exact SS | (refine HSr.out _ (grown_of_below ?_ _); (first | (with_reducible exact Below.refl _ _) | go_grown); done) | ((try dsimp only); (repeat' apply And.intro) <;> (first | assumption | (simp [go_sem, *]; done))) | go_keep)
      ((go_at_call 69; refine (l23DrawActions_any W _ _ vb bs _ (HS.out.below (by first | (with_reducible exact Below.refl _ _) | go_grown)) (by omega) 20 (by omega) (by omega)).mono ?_; rintro e w9 ⟨t, rfl, ht, hs, hg⟩; have G : (w8).grownBy w9 (some (W.heap.size + 1 + 1)) := grown_trans (grown_of_below (by first | (with_reducible exact Below.refl _ _) | go_grown) _) hg; have SS := HSr.out _ G; have TR0 := Lib.hid (R0.out.grown G (by first | (simp; done) | (simp; omega) | omega)); have TR1 := Lib.hid (R1.out.grown G (by first | (simp; done) | (simp; omega) | omega)); have TBW := Lib.hid (BW.out.grown G (by first | (simp; done) | (simp; omega) | omega)); have TBS0 := Lib.hid (BS0.out.grown G (by first | (simp; done) | (simp; omega) | omega)); have r0_0 := TR0.out.cell 0 rfl; have rf0_0 := TR0.out.frozen 0; have rz0 := TR0.out.lt; have r1_0 := TR1.out.cell 0 rfl; have rf1_0 := TR1.out.frozen 0; have r1_1 := TR1.out.cell 1 rfl; have rf1_1 := TR1.out.frozen 1; have rz1 := TR1.out.lt; have TO := Lib.hid (HO.out.kept G (own_apart HO.out (by omega))); have TS := Lib.hid hs; have HT := Lib.hid ht; clear hs hg G ht))
    all_goals
      go_wp2
      try simp only [Exit.inBlock, Exit.then]
      refine bodyPost_ret (v := .tuple #[.agg #[.slice A gs.length cv], .agg #[.int .i64 h0, .int .i64 q0], .string t]) ?_ rfl ?_
      · simp [results, Tryd.results30, go_sem, r0_0, r1_0, r1_1]
      · refine HP.out _ _ ⟨_, gs, _, _, _, rfl, ?_, HL.out, HT.out, ?_⟩
        · exact own_mono (own_setCell (own_setCell (own_setCell TO.out (by first | (simp; done) | (simp; omega) | omega) _) (by first | (simp; done) | (simp; omega) | omega) _) (by first | (simp; done) | (simp; omega) | omega) _) (by omega)
        · have := TS.out.old
          go_grown
end Go.Proofs.YtfddibdncniekaaDoor
