/- Racks: what l21Draw, l21DrawState, l21Both draw: some rack, some state. -/
import Derived.Test.YtdlegcjcmhpbcaaDr
import Derived.Test.YtdlegcjcmhpbcaaRkT
import Derived.Test.YtdlegcjcmhpbcaaFl
import Derived.Deep.RegionHeld3
import Derived.Handy
namespace Go.Proofs.Ytdlegcjcmhpbcaa
open Go.RowKit
attribute [local go_sem ↓] Go.wp_at_zero Go.wp_at_succ

theorem grown_new {a b c : World} {row row2 : Option Nat} (h : a.grownBy b row) (k : b.grownBy c row2) (hr : ∀ j, row2 = some j → a.heap.size ≤ j) : a.grownBy c row :=
  ⟨k.os.trans h.os, k.tape.trans h.tape, k.output.trans h.output, Nat.le_trans h.size k.size, fun i hi hn => (k.block i (Nat.lt_of_lt_of_le hi h.size) (fun e => by have := hr i e.symm; omega)).trans (h.block i hi hn)⟩
theorem grown_set {a b : World} {row : Option Nat} (h : a.grownBy b row) {p : Addr} (hp : a.heap.size ≤ p.block) (u : Value) : a.grownBy (b.setCell p u) row :=
  ⟨h.os, h.tape, h.output, by simpa using h.size, fun i hi hn => (Below.heap_setCell b p u i (by omega)).trans (h.block i hi hn)⟩
theorem Src.set_ {W w : World} {g n : Nat} {v : Value} {bs : List Int} (h : Src W w g v bs n) {p : Addr} (hp : W.heap.size ≤ p.block) (hn : g ≠ p.block) (u : Value) : Src W (w.setCell p u) g v bs n := by
  obtain ⟨h1, h2, h3, a, s, ha, hs, hb⟩ := h
  exact ⟨h1, h2, h3.setCell hp u, a, s, ha, hs, hb.far hn u⟩
theorem own_take {w : World} {base g n cap m : Nat} {e : TypeId} {xs : List Value} (h : w.ownsRow base e 1 (.slice (some ⟨g, 0, none⟩) n cap) n xs) (hm : m ≤ n) : w.ownsRow base e 1 (.slice (some ⟨g, 0, none⟩) m cap) m (xs.take m) := by
  obtain ⟨h1, h2⟩ := h
  refine ⟨by rw [List.length_take]; omega, ?_⟩
  rcases h2 with ⟨h2, _⟩ | ⟨g', cap', cur, hv, hb, hg, h3, h4, h5, h6⟩
  · cases h2
  · injection hv with e1 e2 e3
    injection e1 with e1
    injection e1 with e1
    subst e1 e3
    refine Or.inr ⟨g, cap, cur, rfl, hb, hg, by omega, h4, h5, ?_⟩
    rw [← h6, List.take_take]
    congr 1
    omega
theorem I64_take (xs : List Int) (n : Nat) : (I64 xs).take n = I64 (xs.take n) := by simp [I64, List.map_take]
theorem I64_set (xs : List Int) (i : Nat) (x : Int) : (I64 xs).set i (.int .i64 x) = I64 (xs.set i x) := by simp [I64, List.map_set]
theorem cell3 {w : World} {g : Nat} {t : TypeId} {a b c : Int} (h : Blk w g t #[.int .i64 a, .int .i64 b, .int .i64 c]) : ∀ j, j < [a, b, c].length → w.cell? ⟨g, j, none⟩ = some (.int .i64 (ix [a, b, c] j)) := by
  intro j hj
  have hj' : j < 3 := hj
  rcases (show j = 0 ∨ j = 1 ∨ j = 2 by omega) with rfl | rfl | rfl
  · exact h.cell 0 rfl
  · exact h.cell 1 rfl
  · exact h.cell 2 rfl
/-- Behind h rounds of l21Draw. -/
def DrLoop (W w w1 : World) (g : Nat) (vb : Value) (bs : List Int) (k : Nat) (wn : Int) (h : Nat) (vv : Value) (ds : List Int) (wr : World) : Prop :=
  ds.length = h ∧ Blk wr w.heap.size 26 #[.slice none 0 0, .int .i64 0] ∧ Blk wr w1.heap.size 26 #[vv, .int .i64 wn] ∧ wr.ownsRow (w1.heap.size + 1) 2 1 vv ds.length (I64 ds) ∧ Src W wr g vb bs (k + 10 + 2 * h) ∧ w.grownBy wr (some g)
theorem ret_lt {P Q : Prop} (h : P) (k : P → Q) : P ∧ Q := ⟨h, k h⟩
section
variable {W w w1 wr wq : World} {g k h : Nat} {vb vv : Value} {bs ds : List Int} {wn : Int}
theorem DrLoop.own_ne (hl : DrLoop W w w1 g vb bs k wn h vv ds wr) (hg : g < w.heap.size) (hs : w.heap.size < w1.heap.size) : vv.ownBlock = none ∨ vv.ownBlock ≠ some g := by
  obtain ⟨_, _, _, ho, _, _⟩ := hl
  cases hv : vv.ownBlock with
  | none => exact Or.inl rfl
  | some j => exact Or.inr fun e => by have := (ho.lt j hv).1; cases e; omega
/-- A draw. -/
theorem DrLoop.draw (hl : DrLoop W w w1 g vb bs k wn h vv ds wr) (hg : g < w.heap.size) (hs : w.heap.size < w1.heap.size) (hgr : wr.grownBy wq (some g)) :
    Blk wq w.heap.size 26 #[.slice none 0 0, .int .i64 0] ∧ Blk wq w1.heap.size 26 #[vv, .int .i64 wn] ∧ wq.ownsRow (w1.heap.size + 1) 2 1 vv ds.length (I64 ds) ∧ w.grownBy wq (some g) := by
  have hne := hl.own_ne hg hs
  obtain ⟨h1, b0, b1, ho, hS, hG⟩ := hl
  exact ⟨b0.grown hgr (by simp; omega), b1.grown hgr (by simp; omega), ho.kept hgr hne, grown_trans hG hgr⟩
end

/-- An append to the rack's list. -/
theorem DrLoop.app {W w w1 w3 w4 : World} {g k h : Nat} {vb vv v' : Value} {bs ds : List Int} {wn y : Int} (hg : g < w.heap.size) (hs : w.heap.size < w1.heap.size)
    (h0 : Blk w3 w.heap.size 26 #[.slice none 0 0, .int .i64 0]) (h1 : Blk w3 w1.heap.size 26 #[vv, .int .i64 wn]) (ho : w3.ownsRow (w1.heap.size + 1) 2 1 vv ds.length (I64 ds)) (hG : w.grownBy w3 (some g)) (hS : Src W w3 g vb bs (k + 10 + 2 * (h + 1))) (hl : ds.length = h)
    (ho' : w4.ownsRow (w1.heap.size + 1) 2 1 v' (ds ++ [y]).length (I64 (ds ++ [y]))) (hb : Below (w1.heap.size + 1) w3 w4) (hg' : w3.grownBy w4 vv.ownBlock) :
    ∃ ds' A C, v' = .slice A ds'.length C ∧ Blk w4 w1.heap.size 26 #[vv, .int .i64 wn] ∧ DrLoop W w w1 g vb bs k wn (h + 1) (.slice A ds'.length C) ds' (w4.setCell ⟨w1.heap.size, 0, none⟩ (.slice A ds'.length C)) := by
  obtain ⟨A, C, rfl⟩ := own_form ho'
  have hWg := hS.2.1
  have hr : ∀ j, vv.ownBlock = some j → w1.heap.size + 1 ≤ j := fun j hj => (ho.lt j hj).1
  have e1 := h1.belowB hb (by omega)
  refine ⟨ds ++ [y], A, C, rfl, e1, by simp [hl], (h0.belowB hb (by omega)).far (by simp; omega) _, e1.set_ 0 _, own_setCell ho' (by simp) _, ?_, ?_⟩
  · refine Src.set_ (hS.far hg' (fun j hj => ?_) (fun e => ?_)) (by simp; omega) (by simp; omega) _
    · have := hr j hj; omega
    · have := hr g e.symm; omega
  · exact grown_set (grown_new hG hg' (fun j hj => by have := hr j hj; omega)) (by simp; omega) _

set_option maxRecDepth 100000 in
set_option maxHeartbeats 8000000 in
theorem l21Draw_any (W w : World) (g : Nat) (vb : Value) (bs : List Int) (k : Nat) (h : Src W w g vb bs k) (hk : k ≤ 100000) :
    Calls Try.prog 33 #[.pointer (some ⟨g, 0, none⟩)] w fun e w' => ∃ (v : Value) (ds : List Int) (wn : Int), e = .returned (.agg #[v, .int .i64 wn]) ∧ w'.ownsRow w.heap.size 2 1 v ds.length (I64 ds) ∧ ds.length ≤ 12 ∧ Src W w' g vb bs (k + 100) ∧ w.grownBy w' (some g) := by
  have hg := h.lt
  have HS := Lib.hid h
  clear h
  go_enter Try.func33, Try.ntmps33
  go_wp2_with fail
  refine (pick_any W _ g vb bs k (HS.out.below (by go_grown)) (by omega) _ (by omega)).mono ?_
  rintro e w1 ⟨x, ⟨x0, x1⟩, rfl, hs, hg1⟩
  have hb0 : Blk w1 w.heap.size 26 #[.slice none 0 0, .int .i64 0] := (Blk.new w _ _).grown hg1 (by simp; omega)
  have z1 := hb0.lt
  have hG0 : w.grownBy w1 (some g) := grown_trans (grown_of_below (by go_grown) _) hg1
  have x31 : x ≤ 29 := by omega
  have HB0 := Lib.hid hb0
  have HG0 := Lib.hid hG0
  have HS1 := Lib.hid hs
  clear hs hg1 hb0 hG0
  go_wp2_with fail
  refine (one_any W _ g vb bs _ (HS1.out.below (by go_grown)) (by omega) _ (by omega)).mono ?_
  rintro e w2 ⟨pl, rfl, hs, hg2⟩
  have HL0 : Hid (DrLoop W w w1 g vb bs k (1 + x) 0 (.slice none 0 0) [] w2) := by
    refine ⟨rfl, ?_, ?_, World.ownsRow_nil _ _ _ _, hs.mono (by omega), ?_⟩
    · exact (HB0.out.alloc _).grown hg2 (by simp; omega)
    · exact (Blk.new _ _ _).grown hg2 (by simp; omega)
    · exact grown_trans HG0.out (grown_trans (grown_of_below (by go_grown) _) hg2)
  clear hs hg2
  go_wp2_with fail
  go_loopw [5] (fun i wr => ∃ (h : Nat) (vv : Value) (ds : List Int), h ≤ 12 ∧ i = .int .i64 h ∧ DrLoop W w w1 g vb bs k (1 + x) h vv ds wr) (fun i _ => 12 - (intOf i).toNat)
  case atStart => exact ⟨0, _, [], by omega, rfl, HL0.out⟩
  case round =>
    obtain ⟨h, vv, ds, hh, rfl, hl⟩ := hrel
    by_cases hlt : h < 12
    · have HL := Lib.hid hl
      have hS := hl.2.2.2.2.1
      have HSS := Lib.hid hS
      clear hl hS
      go_wp2_with fail
      refine (pick_any W _ g vb bs _ HSS.out (by omega) _ (by omega)).mono ?_
      rintro e w3 ⟨y, ⟨y0, y1⟩, rfl, hs, hg3⟩
      obtain ⟨d0, d1, d2, d3⟩ := HL.out.draw hg z1 hg3
      have q0 := d1.cell 0 rfl
      have q1 := d1.cell 1 rfl
      have f0 := d1.frozen 0
      have zz := d1.lt
      have hlen := HL.out.1
      have hll : ds.length ≤ 134217728 := by omega
      have HLN := Lib.hid hlen
      have D0 := Lib.hid d0
      have D1 := Lib.hid d1
      have D2 := Lib.hid d2
      have D3 := Lib.hid d3
      have HS3 := Lib.hid hs
      clear hs hg3 d0 d1 d2 d3 hlen
      cases pl with
      | false =>
        go_wp2_with (first | (go_at_call 22; refine (l19Mod_any _ _ _ (by omega) (by omega) (by omega) (by omega)).mono ?_; rintro e w' ⟨rfl, rfl⟩) | (at_builtin; refine wpList_app1g rfl _ _ rfl (w1.heap.size + 1) _ ds rfl D2.out _ w3.heap.size rfl rfl hll (by omega) ?_; intro v' w4 hown' hb' hg'; obtain ⟨ds', A4, C4, rfl, e0, e1⟩ := DrLoop.app hg z1 D0.out D1.out D2.out D3.out HS3.out HLN.out hown' hb' hg'; have f1 := e0.frozen 0; have q2 := e0.cell 0 rfl; have z4 := e0.lt; have E1 := Lib.hid e1; clear hown' hb' hg' e0 e1))
        go_roundw
        case rel => exact ⟨h + 1, _, _, by omega, by go_num, E1.out⟩
        case measure => simp [intOf]; omega
      | true =>
        have i1 : (0 : Int) ≤ ((h : Int) - 1) % 12 ∧ ((h : Int) - 1) % 12 < 12 := by omega
        obtain ⟨i1, i2⟩ := i1
        go_wp2_with (first | (go_at_call 22; refine (l19Mod_any _ _ _ (by omega) (by omega) (by omega) (by omega)).mono ?_; rintro e w' ⟨rfl, rfl⟩) | (at_builtin; refine wpList_app1g rfl _ _ rfl (w1.heap.size + 1) _ ds rfl D2.out _ w3.heap.size rfl rfl hll (by omega) ?_; intro v' w4 hown' hb' hg'; obtain ⟨ds', A4, C4, rfl, e0, e1⟩ := DrLoop.app hg z1 D0.out D1.out D2.out D3.out HS3.out HLN.out hown' hb' hg'; have f1 := e0.frozen 0; have q2 := e0.cell 0 rfl; have z4 := e0.lt; have E1 := Lib.hid e1; clear hown' hb' hg' e0 e1))
        go_roundw
        case rel => exact ⟨h + 1, _, _, by omega, by go_num, E1.out⟩
        case measure => simp [intOf]; omega
    · obtain rfl : h = 12 := by omega
      have HL := Lib.hid hl
      obtain ⟨hlen, _, _, ho, hS, _⟩ := hl
      have HSS := Lib.hid hS
      have HLN := Lib.hid hlen
      have hWg := hS.2.1
      clear hS ho hlen
      go_wp2_with fail
      refine (pick_any W _ g vb bs _ HSS.out (by omega) _ (by omega)).mono ?_
      rintro e w3 ⟨y, ⟨y0, y1⟩, rfl, hs, hg3⟩
      obtain ⟨d0, d1, d2, d3⟩ := HL.out.draw hg z1 hg3
      obtain ⟨bv, cv, rfl, _⟩ := d2.form (by have := HLN.out; omega)
      have hbv := (d2.lt bv rfl).1
      have hbv2 := (d2.lt bv rfl).2
      have D0 := Lib.hid d0
      have D1 := Lib.hid d1
      have D2 := Lib.hid d2
      have D3 := Lib.hid d3
      have HS3 := Lib.hid hs
      clear hs hg3 d0 d1 d2 d3
      by_cases h0 : y = 0
      · subst h0
        go_wp2_with fail
        have k3 : Blk (w3.alloc (.cells #[.int .i64 0, .int .i64 30, .int .i64 31] 2)) w3.heap.size 2 #[.int .i64 0, .int .i64 30, .int .i64 31] := Blk.new _ _ _
        refine (among_any W _ g vb bs _ (HS3.out.below (by go_grown)) (by omega) w3.heap.size [0, 30, 31] 3 (by decide) (by have := HS3.out.lt; omega) (by decide) (by decide) (cell3 k3) k3.lt).mono ?_
        rintro e w4 ⟨x6, hx6, rfl, hs, hg4⟩
        have b0 : Blk w4 w.heap.size 26 _ := (D0.out.alloc _).grown hg4 (by simp; omega)
        have b1 : Blk w4 w1.heap.size 26 _ := (D1.out.alloc _).grown hg4 (by simp; omega)
        have O4 := Lib.hid ((D2.out.alloc (.cells #[.int .i64 0, .int .i64 30, .int .i64 31] 2)).kept hg4 (Or.inr (by simp [Value.ownBlock]; omega)))
        have G4 := Lib.hid (grown_trans (grown_trans D3.out (grown_of_below (by go_grown) _)) hg4)
        have S4 := Lib.hid (hs.mono (show _ ≤ k + 100 by omega))
        have p0 := b0.cell 0 rfl
        have p1 := b0.cell 1 rfl
        have pf0 := b0.frozen 0
        have pf1 := b0.frozen 1
        have q0 := b1.cell 0 rfl
        have q1 := b1.cell 1 rfl
        have qf0 := b1.frozen 0
        have qf1 := b1.frozen 1
        have zp := b0.lt
        have zq := b1.lt
        have np : ¬ w.heap.size = w1.heap.size := by omega
        have nq : ¬ w1.heap.size = w.heap.size := by omega
        clear hs hg4 hx6 b0 b1 k3
        have hlen := HLN.out
        go_wp2
        try simp only [Exit.inBlock, Exit.then]
        refine bodyPost_ret (v := .agg #[.slice (some ⟨bv, 0, none⟩) ds.length cv, .int .i64 (x6)]) ?_ rfl ?_
        · simp [results, Try.results33, go_sem, *]
        refine ⟨_, ds, _, rfl, ?_, (by omega), ?_, ?_⟩
        · refine own_mono (base := w1.heap.size + 1) ?_ (by omega)
          (repeat' (first | refine own_setCell ?_ (by first | (simp; done) | (simp; omega)) _))
          exact O4.out
        · (repeat' (first | refine Src.set_ ?_ (by first | (simp; done) | (simp; omega)) (by first | (simp; done) | (simp; omega)) _))
          exact S4.out
        · (repeat' (first | refine grown_set ?_ (by first | (simp; done) | (simp; omega)) _))
          exact G4.out

      · have hq0 : (y == 0) = false := by simpa using h0
        by_cases h1 : y = 1
        · subst h1
          have n1 : ¬ bv = w1.heap.size := by omega
          have n2 : ¬ w1.heap.size = bv := by omega
          have n3 : ¬ bv = w.heap.size := by omega
          have n4 : ¬ w.heap.size = bv := by omega
          have np : ¬ w.heap.size = w1.heap.size := by omega
          have nq : ¬ w1.heap.size = w.heap.size := by omega
          have c0 := D1.out.cell 0 rfl
          have zc := D1.out.lt
          go_wp2_with fail
          go_region_held3 (fun w' => w'.cell? ⟨w1.heap.size, 0, none⟩ = some (.slice (some ⟨bv, 0, none⟩) ds.length cv)) (first | assumption | ((try dsimp only); (simp [go_sem, *]; done)) | go_keep)
            (first
              | (go_at_call 43; refine (pick_any W _ g vb bs _ (HS3.out.below (by first | (with_reducible exact Below.refl _ _) | go_grown)) (by omega) _ (by omega)).mono ?_; rintro e w4 ⟨i6, ⟨i60, i61⟩, rfl, hs4, hg4⟩; obtain ⟨j6, rfl⟩ := Int.eq_ofNat_of_zero_le i60; have i62 : j6 < 12 := (by omega); have i63 : (j6 : Int) < (ds.length : Int) := (by have := HLN.out; omega); have i64 : j6 < ds.length := (by have := HLN.out; omega); have G4 : w3.grownBy w4 (some g) := grown_trans (grown_of_below (by first | (with_reducible exact Below.refl _ _) | go_grown) _) hg4; have HG4 := Lib.hid G4; have b1 : Blk w4 w1.heap.size 26 _ := D1.out.grown G4 (by first | (simp; done) | (simp; omega)); have c0 := b1.cell 0 rfl; have s34 := G4.size; have HH4 := Lib.hid hg4; have HS4 := Lib.hid hs4; clear hs4 hg4 G4 b1 i61)
              | (go_at_call 45; (first | ((with_reducible show Calls _ _ #[_, .slice (some ⟨w3.heap.size, 0, none⟩) _ _] _ _); (have k3 : Blk w4 w3.heap.size 2 #[.int .i64 0, .int .i64 12, .int .i64 13] := by first | exact Blk.grown (Blk.new w3 2 #[.int .i64 0, .int .i64 12, .int .i64 13]) HH4.out (by first | (simp; done) | (simp; omega)) | exact Blk.grown (Blk.drew (Blk.new w3 2 #[.int .i64 0, .int .i64 12, .int .i64 13])) HH4.out (by first | (simp; done) | (simp; omega))); refine (among_any W _ g vb bs _ HS4.out (by omega) w3.heap.size [0, 12, 13] 3 (by decide) (by have := HS3.out.lt; omega) (by decide) (by decide) (cell3 k3) k3.lt).mono ?_; clear k3) | ((with_reducible show Calls _ _ #[_, .slice (some ⟨w4.heap.size, 0, none⟩) _ _] _ _); refine (among_any W _ g vb bs _ (HS4.out.below (by first | (with_reducible exact Below.refl _ _) | go_grown)) (by omega) w4.heap.size [0, 12, 13] 3 (by decide) (by have := HS4.out.lt; omega) (by decide) (by decide) (cell3 (Blk.new _ _ _)) (by simp)).mono ?_)); rintro e w5 ⟨x6, hx6, rfl, hs5, hg5⟩; have G5 : w3.grownBy w5 (some g) := grown_trans (grown_trans HG4.out (grown_of_below (by first | (with_reducible exact Below.refl _ _) | go_grown) _)) hg5; have HG5 := Lib.hid G5; have b0 : Blk w5 w.heap.size 26 _ := D0.out.grown G5 (by first | (simp; done) | (simp; omega)); have b1 : Blk w5 w1.heap.size 26 _ := D1.out.grown G5 (by first | (simp; done) | (simp; omega)); have p0 := b0.cell 0 rfl; have p1 := b0.cell 1 rfl; have pf0 := b0.frozen 0; have pf1 := b0.frozen 1; have q0 := b1.cell 0 rfl; have q1 := b1.cell 1 rfl; have qf0 := b1.frozen 0; have qf1 := b1.frozen 1; have zp := b0.lt; have zq := b1.lt; have O5 := D2.out.kept G5 (Or.inr (by first | (simp [Value.ownBlock]; done) | (simp [Value.ownBlock]; omega))); have co := O5.cellAt j6 (by rw [Nat.mul_one]; exact i64); rw [I64_get i64] at co; have fz := O5.frozenAt j6; have T5 := O5.stored j6 (.int .i64 x6); rw [I64_set] at T5; have HT := Lib.hid T5.1; have HS5 := Lib.hid hs5; clear T5 O5 hs5 hg5 G5 b0 b1 hx6))
          all_goals
            have G6 := Lib.hid (grown_trans D3.out HG5.out)
            have S6 := Lib.hid (HS5.out.mono (show _ ≤ k + 100 by omega))
            go_wp2
            try simp only [Exit.inBlock, Exit.then]
            refine bodyPost_ret (v := .agg #[.slice (some ⟨bv, 0, none⟩) ds.length cv, .int .i64 (1 + x)]) ?_ rfl ?_
            · simp [results, Try.results33, go_sem, *]
            refine ⟨_, ds.set j6 x6, _, rfl, ?_, (by rw [List.length_set]; have := HLN.out; omega), ?_, ?_⟩
            · refine own_mono (base := w1.heap.size + 1) ?_ (by omega)
              refine own_setCell (own_setCell ?_ (by first | (simp; done) | (simp; omega)) _) (by first | (simp; done) | (simp; omega)) _
              rw [List.length_set]; exact HT.out
            · (repeat' (first | refine Src.set_ ?_ (by first | (simp; done) | (simp; omega)) (by first | (simp; done) | (simp; omega)) _))
              exact S6.out
            · (repeat' (first | refine grown_set ?_ (by first | (simp; done) | (simp; omega)) _))
              exact G6.out

        · have hq1 : (y == 1) = false := by simpa using h1
          have b0 := D0.out
          have b1 := D1.out
          have S4 := Lib.hid (HS3.out.mono (show _ ≤ k + 100 by omega))
          have p0 := b0.cell 0 rfl
          have p1 := b0.cell 1 rfl
          have pf0 := b0.frozen 0
          have pf1 := b0.frozen 1
          have q0 := b1.cell 0 rfl
          have q1 := b1.cell 1 rfl
          have qf0 := b1.frozen 0
          have qf1 := b1.frozen 1
          have zp := b0.lt
          have zq := b1.lt
          have np : ¬ w.heap.size = w1.heap.size := by omega
          have nq : ¬ w1.heap.size = w.heap.size := by omega
          clear b0 b1
          have hlen := HLN.out
          by_cases h2 : y = 2
          · subst h2
            have i11 : (11 : Int) ≤ (cv : Int) := by
              obtain ⟨_, _, e, h5, _⟩ := (Sl.of_own D2.out).open_
              injection e with _ _ e3
              omega
            have O2 : Hid (w3.ownsRow (w1.heap.size + 1) 2 1 (.slice (some ⟨bv, 0, none⟩) 11 cv) (ds.take 11).length (I64 (ds.take 11))) := by
              show World.ownsRow _ _ _ _ _ _ _
              rw [List.length_take, show min 11 ds.length = 11 by omega, ← I64_take]
              exact own_take D2.out (by omega)
            go_wp2
            try simp only [Exit.inBlock, Exit.then]
            refine bodyPost_ret (v := .agg #[.slice (some ⟨bv, 0, none⟩) 11 cv, .int .i64 (1 + x)]) ?_ rfl ?_
            · simp [results, Try.results33, go_sem, *]
            refine ⟨_, ds.take 11, _, rfl, ?_, (by rw [List.length_take]; omega), ?_, ?_⟩
            · refine own_mono (base := w1.heap.size + 1) ?_ (by omega)
              (repeat' (first | refine own_setCell ?_ (by first | (simp; done) | (simp; omega)) _))
              exact O2.out
            · (repeat' (first | refine Src.set_ ?_ (by first | (simp; done) | (simp; omega)) (by first | (simp; done) | (simp; omega)) _))
              exact S4.out
            · (repeat' (first | refine grown_set ?_ (by first | (simp; done) | (simp; omega)) _))
              exact D3.out

          · have hq2 : (y == 2) = false := by simpa using h2
            go_wp2
            try simp only [Exit.inBlock, Exit.then]
            refine bodyPost_ret (v := .agg #[.slice (some ⟨bv, 0, none⟩) ds.length cv, .int .i64 (1 + x)]) ?_ rfl ?_
            · simp [results, Try.results33, go_sem, *]
            refine ⟨_, ds, _, rfl, ?_, (by omega), ?_, ?_⟩
            · refine own_mono (base := w1.heap.size + 1) ?_ (by omega)
              (repeat' (first | refine own_setCell ?_ (by first | (simp; done) | (simp; omega)) _))
              exact D2.out
            · (repeat' (first | refine Src.set_ ?_ (by first | (simp; done) | (simp; omega)) (by first | (simp; done) | (simp; omega)) _))
              exact S4.out
            · (repeat' (first | refine grown_set ?_ (by first | (simp; done) | (simp; omega)) _))
              exact D3.out

end Go.Proofs.Ytdlegcjcmhpbcaa
