/- Racks: RackWheel in the program and in the reference. -/
import Derived.Test.YtipakagmbppagaaRkW
import Derived.Deep.RegionLaw
namespace Go.Proofs.Ytipakagmbppagaa
open Go.RowKit
attribute [local go_sem ↓] Go.wp_at_zero Go.wp_at_succ

/-- The first k gaps of the wheel that strikes as a rack does. -/
def rwM (ds : List Int) (k : Nat) : List Int := (List.range k).map fun j : Nat => ix ds ((j + 1) % 12)
theorem rwM_length (ds : List Int) (k : Nat) : (rwM ds k).length = k := by simp [rwM]
theorem rwM_succ (ds : List Int) (k : Nat) : rwM ds (k + 1) = rwM ds k ++ [ix ds ((k + 1) % 12)] := by simp [rwM, List.range_succ]
theorem ix_rwM {ds : List Int} {k j : Nat} (h : j < k) : ix (rwM ds k) j = ix ds ((j + 1) % 12) := by
  rw [ix_eq (by rw [rwM_length]; exact h)]; simp [rwM]
theorem ix_drop (xs : List Int) (k j : Nat) : ix (xs.drop k) j = ix xs (k + j) := by simp [ix, List.getD]
theorem rwM_all {ds : List Int} (h : ds.length = 12) : ds.drop 1 ++ ds.take 1 = rwM ds 12 := by
  refine ext_ix (by simp [rwM_length]; omega) fun j hj => ?_
  have hj' : j < 12 := by simp at hj; omega
  rw [ix_rwM hj']
  have hl : (ds.drop 1).length = 11 := by simp; omega
  by_cases h1 : j < 11
  · rw [ix_append_left (by omega), ix_drop]
    congr 1
    omega
  · have : j = 11 := by omega
    subst this
    rw [ix_append_right (by omega), hl, ix_take (by omega)]

set_option maxRecDepth 100000 in
set_option maxHeartbeats 4000000 in
theorem RackWheel_i0 (v : Value) (ds : List Int) (wn : Int) (w : World) (hv : Sl w v ds) (hs : rkB ds wn = true) :
    Calls Try.prog 48 #[.agg #[v, .int .i64 wn]] w fun e w' => ∃ v', e = .returned (.tuple #[.agg #[v'], .int .i64 0]) ∧ w'.ownsRow w.heap.size 2 1 v' (rwM ds 12).length (I64 (rwM ds 12)) ∧ Below w.heap.size w w' := by
  have H1 := Lib.hid (fun w' (hb : Below w.heap.size w w') => ValidRack_i v ds wn w' (hv.below hb))
  have hlen := (rkB_iff.1 hs).1
  obtain ⟨A, c, rfl, hac, hac', HA⟩ := hv.open_
  have HB := Lib.hid hs
  have HR := Lib.hid (rwM_all hlen)
  have HL := Lib.hid hlen
  obtain ⟨b, o, rfl, hb, hc⟩ := HA.out 0 (by omega)
  rw [hlen] at hac ⊢
  have H1' : Hid (∀ w', Below w.heap.size w w' → Calls Try.prog 22 #[.agg #[.slice (some ⟨b, o, none⟩) 12 c, .int .i64 wn]] w' fun e w'_1 => e = .returned (.bool (rkB ds wn)) ∧ Below w'.heap.size w' w'_1) := by
    have := H1.out; rw [hlen] at this; exact this
  have H3 : Hid (∀ w', Below w.heap.size w w' → Sl w' (.slice (some ⟨b, o + 1, none⟩) 11 (c - 1)) (ds.drop 1)) := fun w' hw =>
    sl_from (by simp; omega) (by omega) (by omega) (Nat.lt_of_lt_of_le hb hw.size) fun j hj => by
      have hj' : 1 + j < ds.length := by simp at hj; omega
      rw [ix_drop, Nat.add_assoc]
      exact (hw.cell (p := ⟨b, o + (1 + j), none⟩) hb).trans (hc _ hj')
  have H4 : Hid (∀ w', Below w.heap.size w w' → Sl w' (.slice (some ⟨b, o, none⟩) 1 c) (ds.take 1)) := fun w' hw =>
    sl_from (by simp; omega) (by omega) (by omega) (Nat.lt_of_lt_of_le hb hw.size) fun j hj => by
      have hj' : j < 1 := by simp at hj; omega
      rw [ix_take hj']
      exact (hw.cell (p := ⟨b, o + j, none⟩) hb).trans (hc _ (by omega))
  have c1 : (12 : Int) ≤ (c : Int) := by omega
  have c3 : (1 : Int) ≤ (c : Int) := by omega
  have c4 : 1 ≤ c := by omega
  have c5 : ¬ c = 1 := by omega
  clear hv hs H1 HA hc hlen
  go_enter Try.func48, Try.ntmps48
  obtain ⟨k0, k1⟩ := bx2 w 27 62 #[.slice (some ⟨b, o, none⟩) 12 c, .int .i64 wn] #[.slice none 0 0]
  have HK0 := Lib.hid k0
  have HK1 := Lib.hid k1
  clear k0 k1
  go_wp2_with fail
  refine (H1'.out _ (by go_grown)).mono ?_
  rintro e w1 ⟨rfl, hb1⟩
  rw [HB.out]
  have J0 := Lib.hid (HK0.out.below hb1)
  have J1 := Lib.hid (HK1.out.below hb1)
  have q0 := J0.out.cell 0 rfl
  have q1 := J0.out.cell 1 rfl
  have z0 := J0.out.lt
  have z1 := J1.out.lt
  have B1 : Below w.heap.size w w1 := Below.trans (by go_grown) (hb1.mono (by simp; omega))
  clear hb1 HK0 HK1
  go_wp2_with fail
  go_region_held3 (fun w' => w'.cell? ⟨w.heap.size, 0, none⟩ = some (.slice (some ⟨b, o, none⟩) 12 c)) (first | assumption | go_keep)
    (first
      | (go_at_call 84; refine (Concat2 w1.heap.size _ _ (ds.drop 1) (ds.take 1) _ (by exact H3.out _ (by go_grown)) (by exact H4.out _ (by go_grown)) (by first | exact Blk.new w1 _ _ | exact (Blk.new w1 _ _).drew) (by have := HL.out; simp; omega) (by have := HL.out; simp; omega) (by have := HL.out; simp; omega) (by have := HL.out; simp; omega)).mono ?_; rintro e w2 ⟨v2, rfl, o2, hb2⟩; obtain ⟨A2, c2, rfl⟩ := own_form o2; have B2 : Below w1.heap.size w1 w2 := Below.trans (by go_grown) (hb2.mono (by simp)); have p0 := (J0.out.below B2).cell 0 rfl; have j1 := J1.out.below B2; have p2 := j1.cell 0 rfl; have f2 := j1.frozen 0; have z2 := j1.lt; have HO := Lib.hid o2; clear o2 hb2 j1))
  have B3 := B1.trans (B2.mono B1.size)
  go_wp2
  try simp only [Exit.inBlock, Exit.then]
  refine bodyPost_ret (v := .tuple #[.agg #[.slice A2 (ds.drop 1 ++ ds.take 1).length c2], .int .i64 0]) ?_ rfl ?_
  · simp [results, Try.results48, go_sem, p2]
  refine ⟨_, rfl, ?_, by go_grown⟩
  rw [← HR.out]
  refine own_mono (base := w1.heap.size + 1) (own_setCell ?_ (by simp; omega) _) (by omega)
  simpa using HO.out

set_option maxHeartbeats 2000000 in
theorem RackWheel_i1 (v : Value) (ds : List Int) (wn : Int) (w : World) (hv : Sl w v ds) (hs : rkB ds wn = false) :
    Calls Try.prog 48 #[.agg #[v, .int .i64 wn]] w fun e w' => ∃ v', e = .returned (.tuple #[.agg #[v'], .int .i64 1]) ∧ w'.ownsRow w.heap.size 2 1 v' ([] : List Int).length (I64 []) ∧ Below w.heap.size w w' := by
  have H1 := Lib.hid (fun w' (hb : Below w.heap.size w w') => ValidRack_i v ds wn w' (hv.below hb))
  have HB := Lib.hid hs
  clear hv hs
  go_enter Try.func48, Try.ntmps48
  obtain ⟨k0, k1⟩ := bx2 w 27 62 #[v, .int .i64 wn] #[.slice none 0 0]
  have HK1 := Lib.hid k1
  clear k0 k1
  go_wp2_with fail
  refine (H1.out _ (by go_grown)).mono ?_
  rintro e w1 ⟨rfl, hb1⟩
  rw [HB.out]
  have j1 := HK1.out.below hb1
  have q2 := j1.cell 0 rfl
  have f2 := j1.frozen 0
  have z2 := j1.lt
  have B1 : Below w.heap.size w w1 := Below.trans (by go_grown) (hb1.mono (by simp; omega))
  clear hb1 HK1 j1
  go_wp2
  try simp only [Exit.inBlock, Exit.then]
  refine bodyPost_ret (v := .tuple #[.agg #[.slice none 0 0], .int .i64 1]) ?_ rfl ?_
  · simp [results, Try.results48, go_sem, q2]
  exact ⟨_, rfl, World.ownsRow_nil _ _ _ _, by go_grown⟩

set_option maxRecDepth 100000 in
set_option maxHeartbeats 8000000 in
theorem RackWheel_s0 (v : Value) (ds : List Int) (wn : Int) (w : World) (hv : Sl w v ds) (hs : rkB ds wn = true) :
    Calls Try.prog 47 #[.agg #[v, .int .i64 wn]] w fun e w' => ∃ v', e = .returned (.tuple #[.agg #[v'], .int .i64 0]) ∧ w'.ownsRow w.heap.size 2 1 v' (rwM ds 12).length (I64 (rwM ds 12)) ∧ Below w.heap.size w w' := by
  have H1 := Lib.hid (fun w' (hb : Below w.heap.size w w') => l21Ok_s v ds wn w' (hv.below hb))
  have hlen := (rkB_iff.1 hs).1
  obtain ⟨A, c, rfl, hac, hac', HA⟩ := hv.open_
  have HB := Lib.hid hs
  obtain ⟨b, o, rfl, hb, hc⟩ := HA.out 0 (by omega)
  rw [hlen] at hac H1 hc ⊢
  have HC := Lib.hid hc
  clear hv hs HA hc hlen
  go_enter Try.func47, Try.ntmps47
  obtain ⟨k0, k1⟩ := bx2 w 27 62 #[.slice (some ⟨b, o, none⟩) 12 c, .int .i64 wn] #[.slice none 0 0]
  have HK0 := Lib.hid k0
  have HK1 := Lib.hid k1
  clear k0 k1
  go_wp2_with fail
  refine (H1.out _ (by go_grown)).mono ?_
  rintro e w1 ⟨rfl, hb1⟩
  rw [HB.out]
  have J0 := Lib.hid (HK0.out.below hb1)
  have J1 := Lib.hid (HK1.out.below hb1)
  have z0 := J1.out.lt
  have B1 : Below w.heap.size w w1 := Below.trans (by go_grown) (hb1.mono (by simp; omega))
  clear hb1 HK0 HK1
  go_wp2_with fail
  go_loopw [5] (fun i wr => ∃ k : Nat, k ≤ 12 ∧ i = .int .i64 (k + 1) ∧ ∃ x, Blk wr w.heap.size 27 #[.slice (some ⟨b, o, none⟩) 12 c, .int .i64 wn] ∧ Blk wr (w.heap.size + 1) 62 #[.slice none 0 0] ∧ Blk wr w1.heap.size 62 #[x] ∧ wr.ownsRow (w1.heap.size + 1) 2 1 x (rwM ds k).length (I64 (rwM ds k)) ∧ Below w.heap.size w wr) (fun i _ => 13 - (intOf i).toNat)
  case atStart => exact ⟨0, by omega, by go_num, _, J0.out.alloc _, J1.out.alloc _, Blk.new _ _ _, World.ownsRow_nil _ _ _ _, by go_grown⟩
  case round =>
    obtain ⟨k, hk, rfl, x, b0, b1, b2, hown, hB⟩ := hrel
    obtain ⟨Ax, cx, rfl⟩ := own_form hown
    have q2 := b1.cell 0 rfl
    have f2 := b1.frozen 0
    have z2 := b2.lt
    have q3 := b2.cell 0 rfl
    by_cases hlt : k < 12
    · have i0 : (k : Int) + 1 ≤ 12 := by omega
      have i1 : 0 ≤ (k : Int) + 1 := by omega
      have i2 : 0 ≤ ((k : Int) + 1) % 12 ∧ ((k : Int) + 1) % 12 < 12 := by omega
      obtain ⟨i3, i4⟩ := i2
      have e3 : (((k : Int) + 1) % 12).toNat = (k + 1) % 12 := by omega
      have hce := HC.out ((k + 1) % 12) (by omega)
      have HSr := Lib.hid (fun (w' : World) (hw : Below (w1.heap.size + 1) wr w') => (⟨(b0.belowB hw (by omega)).cell 0 rfl, (b2.belowB hw (by omega)).cell 0 rfl, (by rw [e3]; exact (World.cell?_of_block (a := ⟨b, o + (k + 1) % 12, none⟩) (hw.block b (by have := B1.size; omega))).trans ((hB.cell (p := ⟨b, o + (k + 1) % 12, none⟩) hb).trans hce))⟩ : w'.cell? ⟨w.heap.size, 0, none⟩ = some (.slice (some ⟨b, o, none⟩) 12 c) ∧ w'.cell? ⟨w1.heap.size, 0, none⟩ = some (.slice Ax (rwM ds k).length cx) ∧ w'.cell? ⟨b, o + (((k : Int) + 1) % 12).toNat, none⟩ = some (.int .i64 (ix ds ((k + 1) % 12)))))
      have hsz : w1.heap.size + 1 ≤ wr.heap.size := by omega
      obtain ⟨q0, q1, q4⟩ := HSr.out wr (Below.refl _ _)
      have HM := Lib.hid (rwM_succ ds k)
      have hll : (rwM ds k).length ≤ 134217728 := by rw [rwM_length]; omega
      have HO := Lib.hid hown
      have HK0 := Lib.hid b0
      have HK1 := Lib.hid b1
      have HK2 := Lib.hid b2
      have e0 : IntKind.i64.wrap ((k : Int) + 1) = (k : Int) + 1 := IntWalk.i64_in _ (by omega)
      have e1 : ((k : Int) + 1).tmod 12 = ((k : Int) + 1) % 12 := IntWalk.rem_in _ _ (by omega)
      have e2 : IntKind.i64.wrap (((k : Int) + 1) % 12) = ((k : Int) + 1) % 12 := IntWalk.i64_in _ (by omega)
      have HE := Lib.hid e3
      clear hown b0 b1 b2 hce e3
      go_wp2_with fail
      go_region_law
        ((refine step_app1 rfl _ _ (by rfl) (w1.heap.size + 1) _ (rwM ds k) (by rfl) ((HO.out.alloc _).drew) _ wr.heap.size (by rfl) (heap_alloc_new wr _) hll (by simp; omega) ?_; intro b3 c3 w3 hown3 hb3 hg3; have B3 : Below (w1.heap.size + 1) wr w3 := Below.trans (by go_grown) hb3; have g2 := HK2.out.belowB B3 (Nat.lt_succ_self _); have r2 := g2.cell 0 rfl; have t2 := g2.frozen 0))
      all_goals
        have HO3 := Lib.hid hown3
        have HB3 := Lib.hid B3
        have HG2 := Lib.hid g2
        clear hown3 hb3 hg3 B3 g2
        go_wp2
        go_roundw
        case rel =>
          refine ⟨k + 1, by omega, by go_num, .slice (some ⟨b3, 0, none⟩) ((rwM ds k).length + 1) c3, ?_, ?_, ?_, ?_, ?_⟩
          · refine Blk.far (HK0.out.belowB HB3.out (by omega)) ?_ _; simp; omega
          · refine Blk.far (HK1.out.belowB HB3.out (by omega)) ?_ _; simp; omega
          · exact Blk.put1 HG2.out _
          · rw [HM.out]
            exact own_setCell (by simpa using HO3.out) (by simp) _
          · exact (hB.trans (HB3.out.mono (by omega))).setCell (by simp; omega) _
        case measure => simp [intOf]; omega
    · obtain rfl : k = 12 := by omega
      have HO := Lib.hid hown
      have z1 := b1.lt
      clear hown b0 b1 b2
      go_wp2
      try simp only [Exit.inBlock, Exit.then]
      refine bodyPost_ret (v := .tuple #[.agg #[.slice Ax (rwM ds 12).length cx], .int .i64 0]) ?_ rfl ?_
      · simp [results, Try.results47, go_sem, q2]
      exact ⟨_, rfl, own_mono (own_setCell HO.out (by simp; omega) _) (by omega), by go_grown⟩

set_option maxHeartbeats 2000000 in
theorem RackWheel_s1 (v : Value) (ds : List Int) (wn : Int) (w : World) (hv : Sl w v ds) (hs : rkB ds wn = false) :
    Calls Try.prog 47 #[.agg #[v, .int .i64 wn]] w fun e w' => ∃ v', e = .returned (.tuple #[.agg #[v'], .int .i64 1]) ∧ w'.ownsRow w.heap.size 2 1 v' ([] : List Int).length (I64 []) ∧ Below w.heap.size w w' := by
  have H1 := Lib.hid (fun w' (hb : Below w.heap.size w w') => l21Ok_s v ds wn w' (hv.below hb))
  have HB := Lib.hid hs
  clear hv hs
  go_enter Try.func47, Try.ntmps47
  obtain ⟨k0, k1⟩ := bx2 w 27 62 #[v, .int .i64 wn] #[.slice none 0 0]
  have HK1 := Lib.hid k1
  clear k0 k1
  go_wp2_with fail
  refine (H1.out _ (by go_grown)).mono ?_
  rintro e w1 ⟨rfl, hb1⟩
  rw [HB.out]
  have j1 := HK1.out.below hb1
  have q2 := j1.cell 0 rfl
  have f2 := j1.frozen 0
  have z2 := j1.lt
  have B1 : Below w.heap.size w w1 := Below.trans (by go_grown) (hb1.mono (by simp; omega))
  clear hb1 HK1 j1
  go_wp2
  try simp only [Exit.inBlock, Exit.then]
  refine bodyPost_ret (v := .tuple #[.agg #[.slice none 0 0], .int .i64 1]) ?_ rfl ?_
  · simp [results, Try.results47, go_sem, q2]
  exact ⟨_, rfl, World.ownsRow_nil _ _ _ _, by go_grown⟩

theorem RackWheel_both (ds : List Int) (wn : Int) : ∃ (rl : List Int) (rc : Int), rl.length ≤ 3000 ∧
    (∀ v w, Sl w v ds → Calls Try.prog 48 #[.agg #[v, .int .i64 wn]] w fun e w' => ∃ v', e = .returned (.tuple #[.agg #[v'], .int .i64 rc]) ∧ w'.ownsRow w.heap.size 2 1 v' rl.length (I64 rl) ∧ Below w.heap.size w w') ∧
    (∀ v w, Sl w v ds → Calls Try.prog 47 #[.agg #[v, .int .i64 wn]] w fun e w' => ∃ v', e = .returned (.tuple #[.agg #[v'], .int .i64 rc]) ∧ w'.ownsRow w.heap.size 2 1 v' rl.length (I64 rl) ∧ Below w.heap.size w w') := by
  cases hs : rkB ds wn with
  | true => exact ⟨rwM ds 12, _, by rw [rwM_length]; omega, fun v w hv => RackWheel_i0 v ds wn w hv hs, fun v w hv => RackWheel_s0 v ds wn w hv hs⟩
  | false => exact ⟨[], _, Nat.zero_le _, fun v w hv => RackWheel_i1 v ds wn w hv hs, fun v w hv => RackWheel_s1 v ds wn w hv hs⟩
end Go.Proofs.Ytipakagmbppagaa
