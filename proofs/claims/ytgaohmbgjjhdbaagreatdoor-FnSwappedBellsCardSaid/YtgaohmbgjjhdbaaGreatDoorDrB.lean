/- Chimes: what l22Draw draws: some valid barrel. -/
import Derived.Test.YtgaohmbgjjhdbaaGreatDoorDr
import Derived.Test.YtgaohmbgjjhdbaaGreatDoorChV
import Derived.Deep.RegionHeld3
import Derived.Deep.RegionLaw
import Derived.Deep.DeepCutAuto
namespace Go.Proofs.YtgaohmbgjjhdbaaGreatDoor
open Go.RowKit
attribute [local go_sem ↓] Go.wp_at_zero Go.wp_at_succ

theorem grown_newB {a b c : World} {row row2 : Option Nat} (h : a.grownBy b row) (k : b.grownBy c row2) (hr : ∀ j, row2 = some j → a.heap.size ≤ j) : a.grownBy c row :=
  ⟨k.os.trans h.os, k.tape.trans h.tape, k.output.trans h.output, Nat.le_trans h.size k.size, fun i hi hn => (k.block i (Nat.lt_of_lt_of_le hi h.size) (fun e => by have := hr i e.symm; omega)).trans (h.block i hi hn)⟩
theorem grown_setB {a b : World} {row : Option Nat} (h : a.grownBy b row) {p : Addr} (hp : a.heap.size ≤ p.block) (u : Value) : a.grownBy (b.setCell p u) row :=
  ⟨h.os, h.tape, h.output, by simpa using h.size, fun i hi hn => (Below.heap_setCell b p u i (by omega)).trans (h.block i hi hn)⟩
theorem Src.setB {W w : World} {g n : Nat} {v : Value} {bs : List Int} (h : Src W w g v bs n) {p : Addr} (hp : W.heap.size ≤ p.block) (hn : g ≠ p.block) (u : Value) : Src W (w.setCell p u) g v bs n := by
  obtain ⟨h1, h2, h3, a, s, ha, hs, hb⟩ := h
  exact ⟨h1, h2, h3.setCell hp u, a, s, ha, hs, hb.far hn u⟩

/-- What stands in a loop that draws a barrel's pins: the result's box, the barrel's box b, its pins, the source. -/
def BaAt (W w : World) (g : Nat) (vb : Value) (bs : List Int) (k b : Nat) (st bl : Int) (vv : Value) (ps : List (Int × Int)) (wr : World) : Prop :=
  Blk wr w.heap.size 26 #[.int .i64 0, .int .i64 0, .slice none 0 0] ∧ Blk wr b 26 #[.int .i64 st, .int .i64 bl, vv] ∧ wr.ownsRow (b + 1) 49 2 vv ps.length (P64 ps) ∧ Src W wr g vb bs k ∧ w.grownBy wr (some g)
section
variable {W w wr wq w4 : World} {g k k2 b : Nat} {st bl : Int} {vb vv v' : Value} {bs : List Int} {ps : List (Int × Int)} {y : Int × Int}
theorem BaAt.draw (h : BaAt W w g vb bs k b st bl vv ps wr) (hg : g < w.heap.size) (hb : w.heap.size < b) (hgr : wr.grownBy wq (some g)) (hS : Src W wq g vb bs k2) : BaAt W w g vb bs k2 b st bl vv ps wq := by
  obtain ⟨b0, b1, ho, _, hG⟩ := h
  refine ⟨b0.grown hgr (by simp; omega), b1.grown hgr (by simp; omega), ho.kept hgr ?_, hS, grown_trans hG hgr⟩
  cases hv : vv.ownBlock with
  | none => exact Or.inl rfl
  | some j => exact Or.inr fun e => by have := (ho.lt j hv).1; cases e; omega
theorem BaAt.mono (h : BaAt W w g vb bs k b st bl vv ps wr) (hk : k ≤ k2) : BaAt W w g vb bs k2 b st bl vv ps wr := ⟨h.1, h.2.1, h.2.2.1, h.2.2.2.1.mono hk, h.2.2.2.2⟩
theorem BaAt.app (h : BaAt W w g vb bs k b st bl vv ps wr) (hg : g < w.heap.size) (hbw : w.heap.size < b) (ho' : w4.ownsRow (b + 1) 49 2 v' (ps ++ [y]).length (P64 (ps ++ [y]))) (hb : Below (b + 1) wr w4) (hg' : wr.grownBy w4 vv.ownBlock) :
    ∃ ps' A C, ps' = ps ++ [y] ∧ v' = .slice A ps'.length C ∧ Blk w4 b 26 #[.int .i64 st, .int .i64 bl, vv] ∧ BaAt W w g vb bs k b st bl (.slice A ps'.length C) ps' (w4.setCell ⟨b, 2, none⟩ (.slice A ps'.length C)) := by
  obtain ⟨b0, b1, ho, hS, hG⟩ := h
  obtain ⟨A, C, rfl⟩ := own_form ho'
  have hWg := hS.2.1
  have hr : ∀ j, vv.ownBlock = some j → b + 1 ≤ j := fun j hj => (ho.lt j hj).1
  have e1 := b1.belowB hb (by omega)
  refine ⟨ps ++ [y], A, C, rfl, rfl, e1, (b0.belowB hb (by omega)).far (by simp; omega) _, e1.set_ 2 _, own_setCell ho' (by simp) _, ?_, ?_⟩
  · refine Src.setB (hS.far hg' (fun j hj => ?_) (fun e => ?_)) (by simp; omega) (by simp; omega) _
    · have := hr j hj; omega
    · have := hr g e.symm; omega
  · exact grown_setB (grown_newB hG hg' (fun j hj => by have := hr j hj; omega)) (by simp; omega) _
end
/-- Pins in order, each of them before bell b of step s. -/
def DrawnTo (bl : Int) (ps : List (Int × Int)) (s b : Int) : Prop :=
  (∀ j, j < ps.length → 0 ≤ (pi ps j).1 ∧ 0 ≤ (pi ps j).2 ∧ (pi ps j).2 < bl ∧ befP (pi ps j) (s, b) = true) ∧ ∀ j, 0 < j → j < ps.length → befP (pi ps (j - 1)) (pi ps j) = true
section
variable {bl s b : Int} {ps : List (Int × Int)}
theorem DrawnTo.zero : DrawnTo bl [] 0 0 := ⟨fun j h => absurd h (by simp), fun j _ h => absurd h (by simp)⟩
theorem bef_iff {p q : Int × Int} : befP p q = true ↔ p.1 < q.1 ∨ (p.1 = q.1 ∧ p.2 < q.2) := by simp [befP]
theorem DrawnTo.next (h : DrawnTo bl ps s b) : DrawnTo bl ps s (b + 1) := ⟨fun j hj => by
  obtain ⟨h1, h2, h3, h4⟩ := h.1 j hj
  refine ⟨h1, h2, h3, ?_⟩
  rw [bef_iff] at h4 ⊢; simp only at h4 ⊢; omega, h.2⟩
theorem DrawnTo.app (h : DrawnTo bl ps s b) (hs : 0 ≤ s) (hb : 0 ≤ b) (hb2 : b < bl) : DrawnTo bl (ps ++ [(s, b)]) s (b + 1) := by
  refine ⟨fun j hj => ?_, fun j hj0 hj => ?_⟩
  · rcases Nat.lt_or_ge j ps.length with hlt | hge
    · rw [pi_append_left hlt]; exact h.next.1 j hlt
    · have e : j = ps.length := by simp at hj; omega
      subst e
      rw [pi_append_right (Nat.le_refl _), Nat.sub_self]
      exact ⟨hs, hb, hb2, by rw [bef_iff]; simp [pi]; omega⟩
  · rcases Nat.lt_or_ge j ps.length with hlt | hge
    · rw [pi_append_left hlt, pi_append_left (by omega)]; exact h.2 j hj0 hlt
    · have e : j = ps.length := by simp at hj; omega
      subst e
      rw [pi_append_right (Nat.le_refl _), Nat.sub_self, pi_append_left (by omega)]
      exact (h.1 (ps.length - 1) (by omega)).2.2.2
theorem DrawnTo.row (h : DrawnTo bl ps s bl) : DrawnTo bl ps (s + 1) 0 := ⟨fun j hj => by
  obtain ⟨h1, h2, h3, h4⟩ := h.1 j hj
  refine ⟨h1, h2, h3, ?_⟩
  rw [bef_iff] at h4 ⊢; simp only at h4 ⊢; omega, h.2⟩
theorem DrawnTo.valid {st : Int} (h : DrawnTo bl ps st 0) (h1 : 1 ≤ st ∧ st ≤ 64) (h2 : 1 ≤ bl ∧ bl ≤ 8) (h3 : ps.length ≤ 128) : brB st bl ps = true := by
  refine brB_iff.2 ⟨h1, h2, h3, fun j hj => ?_⟩
  obtain ⟨a1, a2, a3, a4⟩ := h.1 j hj
  rw [bef_iff] at a4
  exact ⟨inB_t a1 (by simp only at a4; omega), inB_t a2 (by omega), fun h0 => h.2 j h0 hj⟩
end
/-- What a draw of a barrel leaves. -/
def BarPost (W w : World) (g : Nat) (vb : Value) (bs : List Int) (k : Nat) (G : Int → Int → List (Int × Int) → Prop) (e : Ending) (w' : World) : Prop :=
  ∃ (v : Value) (st bl : Int) (ps : List (Int × Int)), e = .returned (.agg #[.int .i64 st, .int .i64 bl, v]) ∧ w'.ownsRow w.heap.size 49 2 v ps.length (P64 ps) ∧ G st bl ps ∧ Src W w' g vb bs k ∧ w.grownBy w' (some g)

set_option maxRecDepth 100000 in
set_option maxHeartbeats 8000000 in
theorem l22Draw_any (W w : World) (g : Nat) (vb : Value) (bs : List Int) (k : Nat) (h : Src W w g vb bs k) (hk : k ≤ 100000) :
    Calls Tryz.prog 36 #[.pointer (some ⟨g, 0, none⟩)] w (BarPost W w g vb bs (k + 200) (fun st bl ps => brB st bl ps = true ∧ st ≤ 12 ∧ bl ≤ 5 ∧ ps.length ≤ 60)) := by
  have HP : Hid (∀ e w', (∃ (v : Value) (st bl : Int) (ps : List (Int × Int)), e = .returned (.agg #[.int .i64 st, .int .i64 bl, v]) ∧ w'.ownsRow w.heap.size 49 2 v ps.length (P64 ps) ∧ (brB st bl ps = true ∧ st ≤ 12 ∧ bl ≤ 5 ∧ ps.length ≤ 60) ∧ Src W w' g vb bs (k + 200) ∧ w.grownBy w' (some g)) → BarPost W w g vb bs (k + 200) (fun st bl ps => brB st bl ps = true ∧ st ≤ 12 ∧ bl ≤ 5 ∧ ps.length ≤ 60) e w') := fun e w' h => h
  have hg := h.lt
  have hWg := h.2.1
  have HS := Lib.hid h
  clear h
  go_enter Tryz.func36, Tryz.ntmps36
  go_wp2_with fail
  refine (pick_any W _ g vb bs k (HS.out.below (by go_grown)) (by omega) _ (by omega)).mono ?_
  rintro e w1 ⟨x, ⟨x0, x1⟩, rfl, hs, hg1⟩
  have HB0 : Hid (Blk w1 w.heap.size 26 #[.int .i64 0, .int .i64 0, .slice none 0 0]) := (Blk.new w _ _).grown hg1 (by simp; omega)
  have HG1 : Hid (w.grownBy w1 (some g)) := grown_trans (grown_of_below (by go_grown) _) hg1
  have HS1 := Lib.hid hs
  have z1 : w.heap.size < w1.heap.size := HB0.out.lt
  obtain ⟨X, rfl⟩ := Int.eq_ofNat_of_zero_le x0
  have hX : X ≤ 11 := by omega
  have ex : IntKind.i64.wrap (1 + (X : Int)) = 1 + (X : Int) := IntWalk.i64_in _ (by omega)
  clear hs hg1
  go_wp2_with fail
  refine (pick_any W _ g vb bs _ HS1.out (by omega) _ (by omega)).mono ?_
  rintro e w2 ⟨y, ⟨y0, y1⟩, rfl, hs, hg2⟩
  obtain ⟨Y, rfl⟩ := Int.eq_ofNat_of_zero_le y0
  have hY : Y ≤ 4 := by omega
  have ey : IntKind.i64.wrap (1 + (Y : Int)) = 1 + (Y : Int) := IntWalk.i64_in _ (by omega)
  have z2 := hg2.size
  have HL0 : Hid (BaAt W w g vb bs (k + 4) w2.heap.size (1 + (X : Int)) (1 + (Y : Int)) (.slice none 0 0) [] (w2.alloc (.cells #[.int .i64 (1 + (X : Int)), .int .i64 (1 + (Y : Int)), .slice none 0 0] 26))) :=
    ⟨(HB0.out.grown hg2 (by simp; omega)).alloc _, Blk.new _ _ _, World.ownsRow_nil _ _ _ _, hs.below (by go_grown), grown_trans (grown_trans HG1.out hg2) (grown_of_below (by go_grown) _)⟩
  clear hs hg2 HB0 HG1 HS1 x0 x1 y0 y1
  go_wp2_with fail
  go_loopw [4] (fun i wr => ∃ (s : Nat) (vv : Value) (ps : List (Int × Int)), s ≤ X + 1 ∧ i = .int .i64 s ∧ Hid (DrawnTo (1 + (Y : Int)) ps s 0) ∧ ps.length ≤ 5 * s ∧ BaAt W w g vb bs (k + 4 + 10 * s) w2.heap.size (1 + (X : Int)) (1 + (Y : Int)) vv ps wr) (fun i _ => X + 1 - (intOf i).toNat)
  case atStart => exact ⟨0, _, [], by omega, by go_num, DrawnTo.zero, by simp, HL0.out⟩
  case round =>
    clear HL0
    obtain ⟨s, vv, ps, hs, rfl, hD, hl, hL⟩ := hrel
    obtain ⟨wo, rfl⟩ : ∃ x : World, x = wr := ⟨_, rfl⟩
    have HL := Lib.hid hL
    obtain ⟨A, C, rfl⟩ := own_form hL.2.2.1
    have q0 := hL.2.1.cell 0 rfl
    have q1 := hL.2.1.cell 1 rfl
    have q2 := hL.2.1.cell 2 rfl
    have z0 := hL.2.1.lt
    clear hL
    by_cases hlt : s < X + 1
    · have i1 : (s : Int) < 1 + (X : Int) := by omega
      go_wp2_with fail
      go_loopw [5] (fun i wr => ∃ (j : Nat) (vv : Value) (ps : List (Int × Int)), j ≤ Y + 1 ∧ i = .int .i64 j ∧ Hid (DrawnTo (1 + (Y : Int)) ps s j) ∧ ps.length ≤ 5 * s + j ∧ BaAt W w g vb bs (k + 4 + 10 * s + 2 * j) w2.heap.size (1 + (X : Int)) (1 + (Y : Int)) vv ps wr) (fun i _ => Y + 1 - (intOf i).toNat)
      case atStart => exact ⟨0, _, ps, by omega, by go_num, hD.out, by omega, HL.out⟩
      case round =>
        clear q0 q1 q2 z0 HL hD
        obtain ⟨j, vv, ps, hj, rfl, hD, hl2, hL⟩ := hrel
        have HL := Lib.hid hL
        obtain ⟨A, C, rfl⟩ := own_form hL.2.2.1
        have q0 := hL.2.1.cell 0 rfl
        have q1 := hL.2.1.cell 1 rfl
        have q2 := hL.2.1.cell 2 rfl
        have z0 := hL.2.1.lt
        clear hL
        by_cases hjl : j < Y + 1
        · have i2 : (j : Int) < 1 + (Y : Int) := by omega
          go_wp2_with fail
          refine (one_any W _ g vb bs _ HL.out.2.2.2.1 (by omega) _ (by omega)).mono ?_
          rintro e w3 ⟨c, rfl, hs3, hg3⟩
          have HL3 := Lib.hid (HL.out.draw hg (by omega) hg3 hs3)
          have p2 := HL3.out.2.1.cell 2 rfl
          have f2 := HL3.out.2.1.frozen 2
          have z3 := HL3.out.2.1.lt
          clear hs3 hg3 q0 q1 q2 z0
          have hpl : ps.length ≤ 134217728 := by omega
          have hz : w2.heap.size + 1 ≤ w3.heap.size := by omega
          cases c with
          | true =>
            go_wp2_with (at_builtin; refine wpList_appPin rfl _ _ rfl (w2.heap.size + 1) _ ps rfl HL3.out.2.2.1 (s : Int) (j : Int) w3.heap.size rfl rfl hpl hz ?_; intro v' w6 hown' hb' hg'; obtain ⟨ps', A4, C4', g1, rfl, e0, e1⟩ := HL3.out.app hg (by omega) hown' hb' hg'; have f1 := e0.frozen 2; have q2 := e0.cell 2 rfl; have z4 := e0.lt; have E1 := Lib.hid e1; have HGL := Lib.hid g1; clear hown' hb' hg' e0 e1 g1)
            go_roundw
            case rel => exact ⟨j + 1, _, ps', by omega, by go_num, by rw [HGL.out]; exact hD.out.app (by omega) (by omega) (by omega), by rw [HGL.out]; simp; omega, E1.out.mono (by omega)⟩
            case measure => simp [intOf]; omega
          | false =>
            go_wp2
            go_roundw
            case rel => exact ⟨j + 1, _, ps, by omega, by go_num, hD.out.next, by omega, HL3.out.mono (by omega)⟩
            case measure => simp [intOf]; omega
        · have hjY : (j : Int) = 1 + (Y : Int) := by omega
          have HD2 : Hid (DrawnTo (1 + (Y : Int)) ps ((s : Int) + 1) 0) := by
            have h := hD.out
            rw [hjY] at h
            exact h.row
          have i9 : ¬ (j : Int) < 1 + (Y : Int) := by omega
          clear hjY
          go_wp2
          go_roundw
          case rel => exact ⟨s + 1, _, ps, by omega, by go_num, HD2.out, by omega, HL.out.mono (by omega)⟩
          case measure => simp [intOf]; omega
    · have hsX : (s : Int) = 1 + (X : Int) := by omega
      have r0 := HL.out.1.cell 0 rfl
      have r1 := HL.out.1.cell 1 rfl
      have r2 := HL.out.1.cell 2 rfl
      have rf0 := HL.out.1.frozen 0
      have rf1 := HL.out.1.frozen 1
      have rf2 := HL.out.1.frozen 2
      have rz := HL.out.1.lt
      have HV : Hid (brB (1 + (X : Int)) (1 + (Y : Int)) ps = true) := by
        have h := hD.out
        rw [hsX] at h
        exact h.valid (by omega) (by omega) (by omega)
      have i9 : ¬ (s : Int) < 1 + (X : Int) := by omega
      clear hsX
      go_wp2
      try simp only [Exit.inBlock, Exit.then]
      refine bodyPost_ret (v := .agg #[.int .i64 (1 + (X : Int)), .int .i64 (1 + (Y : Int)), .slice A ps.length C]) ?_ rfl ?_
      · simp [results, Tryz.results36, go_sem, r0, r1, r2]
      · refine HP.out _ _ ⟨_, 1 + (X : Int), 1 + (Y : Int), ps, rfl, own_mono (base := w.heap.size + 1) ?_ (by omega), ⟨HV.out, by omega, by omega, by omega⟩, ?_, ?_⟩
        · repeat (refine own_setCell ?_ (by first | (simp; done) | (simp; omega) | omega) _)
          exact own_mono HL.out.2.2.1 (by omega)
        · repeat (refine Src.setB ?_ (by first | (simp; done) | (simp; omega) | omega) (by first | (simp; done) | (simp; omega) | omega) _)
          exact HL.out.2.2.2.1.mono (by omega)
        · repeat (refine grown_setB ?_ (by first | (simp; done) | (simp; omega) | omega) _)
          exact HL.out.2.2.2.2
end Go.Proofs.YtgaohmbgjjhdbaaGreatDoor
