/- FnExactBackHands is proved: for every rack and state the program's BackHands and the reference's return the same state and numbers, and the rack is not changed. No condition. -/
import Derived.Test.YtipakagmbppagaaRkC
import Derived.Deep.RegionHeld3
import Derived.Deep.DeepCutAuto
namespace Go.Proofs.Ytipakagmbppagaa
open Go.ChangeShapes Go.WideShapes Go.ChangeAt Go.RowKit
attribute [local go_sem ↓] Go.wp_at_zero Go.wp_at_succ

/-- A law over a rack and a state behind the reference's call: the reference's state lies in block g, the rack's copy in the first block that V lacks. -/
def CtxT (W : World) (v : Value) (ds : List Int) (wn m rd : Int) (g : Nat) (M R : Int) (V : World) (A : Option Addr) (c : Nat) (w : World) : Prop :=
  CtxS W v ds wn m rd w ∧ (W.heap.size + 1 < V.heap.size ∧ g < V.heap.size) ∧ (w.cell? ⟨g, 0, none⟩ = some (.int .i64 M) ∧ w.cell? ⟨g, 1, none⟩ = some (.int .i64 R)) ∧ Blk w V.heap.size 27 #[.slice A ds.length c, .int .i64 wn] ∧ Sl V (.slice A ds.length c) ds ∧ Below V.heap.size V w
section
variable {W w w' V : World} {v : Value} {ds : List Int} {wn m rd M R : Int} {g : Nat} {A : Option Addr} {c : Nat}
theorem CtxT.lt (h : CtxT W v ds wn m rd g M R V A c w) : V.heap.size < w.heap.size := h.2.2.2.1.lt
theorem CtxT.step (h : CtxT W v ds wn m rd g M R V A c w) (hb : Below w.heap.size w w') : CtxT W v ds wn m rd g M R V A c w' :=
  have hx := h.lt
  ⟨h.1.step hb, h.2.1, ⟨(hb.cell (p := ⟨g, 0, none⟩) (Nat.lt_trans h.2.1.2 hx)).trans h.2.2.1.1, (hb.cell (p := ⟨g, 1, none⟩) (Nat.lt_trans h.2.1.2 hx)).trans h.2.2.1.2⟩, h.2.2.2.1.below hb, h.2.2.2.2.1, h.2.2.2.2.2.trans (hb.mono (Nat.le_of_lt hx))⟩
theorem CtxT.drew (h : CtxT W v ds wn m rd g M R V A c w) : CtxT W v ds wn m rd g M R V A c w.drew := ⟨h.1.drew, h.2.1, h.2.2.1, h.2.2.2.1, h.2.2.2.2.1, h.2.2.2.2.2.drew⟩
theorem CtxT.set_ (h : CtxT W v ds wn m rd g M R V A c w) {p : Addr} (hp : V.heap.size < p.block) (u : Value) : CtxT W v ds wn m rd g M R V A c (w.setCell p u) :=
  ⟨h.1.set_ (Nat.lt_trans h.2.1.1 hp) u, h.2.1,
   ⟨(World.cell?_setCell_far _ _ _ _ (by have := h.2.1.2; simp only; omega)).trans h.2.2.1.1, (World.cell?_setCell_far _ _ _ _ (by have := h.2.1.2; simp only; omega)).trans h.2.2.1.2⟩,
   h.2.2.2.1.far (by omega) u, h.2.2.2.2.1, h.2.2.2.2.2.setCell (by omega) u⟩
theorem CtxT.sx (h : CtxT W v ds wn m rd g M R V A c w) : Sl w (.slice A ds.length c) ds := h.2.2.2.2.1.below h.2.2.2.2.2
theorem CtxT.d0 (h : CtxT W v ds wn m rd g M R V A c w) : w.cell? ⟨V.heap.size, 0, none⟩ = some (.slice A ds.length c) := h.2.2.2.1.cell 0 rfl
theorem CtxT.d1 (h : CtxT W v ds wn m rd g M R V A c w) : w.cell? ⟨V.heap.size, 1, none⟩ = some (.int .i64 wn) := h.2.2.2.1.cell 1 rfl
theorem CtxT.all (h : CtxT W v ds wn m rd g M R V A c w) :
    w.cell? ⟨W.heap.size + 1, 0, none⟩ = some (.int .i64 m) ∧ w.cell? ⟨W.heap.size + 1, 1, none⟩ = some (.int .i64 rd) ∧ w.cell? ⟨V.heap.size, 0, none⟩ = some (.slice A ds.length c) ∧ w.cell? ⟨V.heap.size, 1, none⟩ = some (.int .i64 wn) := ⟨h.1.c2, h.1.c3, h.d0, h.d1⟩
theorem CtxT.back (h : CtxT W v ds wn m rd g M R V A c w) :
    w.cell? ⟨W.heap.size, 0, none⟩ = some v ∧ w.cell? ⟨W.heap.size, 1, none⟩ = some (.int .i64 wn) ∧ w.cell? ⟨V.heap.size, 0, none⟩ = some (.slice A ds.length c) ∧ w.cell? ⟨V.heap.size, 1, none⟩ = some (.int .i64 wn) := ⟨h.1.c0, h.1.c1, h.d0, h.d1⟩
theorem CtxT.ne (h : CtxT W v ds wn m rd g M R V A c w) : ¬ w.heap.size = V.heap.size ∧ ¬ V.heap.size = w.heap.size ∧ ¬ w.heap.size = W.heap.size ∧ ¬ w.heap.size = W.heap.size + 1 ∧ ¬ W.heap.size = w.heap.size ∧ ¬ W.heap.size + 1 = w.heap.size := by
  have := h.lt
  have := h.2.1.1
  omega
end

theorem ne4 {a x : Nat} (h : a + 1 < x) : ¬ x = a ∧ ¬ x = a + 1 ∧ ¬ a = x ∧ ¬ a + 1 = x := by omega

set_option maxHeartbeats 8000000 in
theorem exactBackHands_walk (v : Value) (ds : List Int) (wn m rd nq : Int) (W : World) (hv : Sl W v ds) :
    Calls Try.prog 11 #[.agg #[v, .int .i64 wn], .agg #[.int .i64 m, .int .i64 rd], .int .i64 nq] W fun e W' => e = .returned (.bool true) ∧ Below W.heap.size W W' := by
  by_cases hl : ds.length ≤ 1048576
  · have HF1 := Lib.hid (fun v2 w (h : Sl w v2 ds) => BackHands_s v2 ds wn m rd nq w h)
    have HF2 := Lib.hid (fun v2 w (h : Sl w v2 ds) => BackHands_i v2 ds wn m rd nq w h)
    go_enter Try.func11, Try.ntmps11
    have C0 := CtxS.new (wn := wn) (m := m) (rd := rd) hv
    clear hv
    go_wp2_with fail
    refine (szRack_fits v ds wn _ _ C0.sl (by omega) (by omega)).mono ?_
    rintro e w1 ⟨rfl, hb1⟩
    have C1 := C0.step hb1
    have q0 := C1.c0
    have q1 := C1.c1
    have q2 := C1.c2
    have q3 := C1.c3
    have z1 := C1.lt
    have z0 := C1.1.lt
    have n1 := ne4 z1
    clear hb1 C0
    go_wp2_with fail
    go_cut [8, 9] (fun a8 a9 wr => ∃ g : Nat, W.heap.size + 1 < g ∧ a8 = .pointer (some ⟨g, 0, none⟩) ∧ a9 = .int .i64 (on2 ds wn m rd (inB nq 1 720) 0 2 1) ∧ wr.cell? ⟨g, 0, none⟩ = some (.int .i64 (on2 ds wn m rd (inB nq 1 720) ((m - nq) % 720) 0 0)) ∧ wr.cell? ⟨g, 1, none⟩ = some (.int .i64 (0)) ∧ g < wr.heap.size ∧ CtxS W v ds wn m rd wr)
    case first =>
      go_region_held3 (fun w' => w'.cell? ⟨W.heap.size, 0, none⟩ = some v ∧ w'.cell? ⟨W.heap.size, 1, none⟩ = some (.int .i64 wn) ∧ w'.cell? ⟨W.heap.size + 1, 0, none⟩ = some (.int .i64 m) ∧ w'.cell? ⟨W.heap.size + 1, 1, none⟩ = some (.int .i64 rd)) (((try dsimp only); (repeat' apply And.intro) <;> (first | assumption | (simp [go_sem, *]; done) | go_keep)))
        (first
          | (go_at_call 21; refine (toRack_any v ds wn _ (C1.later (by first | exact Below.refl _ _ | go_grown)).sl hl).mono ?_; rintro e w2 ⟨v2, rfl, o2, hb2⟩; have C2 := (C1.later (by first | exact Below.refl _ _ | go_grown)).step hb2; have s2 := Sl.of_own o2; have S2 := C2.all; have n2 := ne4 C2.lt; obtain ⟨hc2, hf2⟩ := bcell hb2; ((try (have a21 : w1.heap.size < w2.heap.size := Nat.lt_of_lt_of_le (by first | assumption | (simp [go_sem]; done) | (simp only [go_sem]; omega) | (simp [go_sem]; omega)) hb2.size))); clear o2 hb2)
          | (go_at_call 32; refine (toRackState_any m rd _).mono ?_; rintro e w3 ⟨rfl, hb3⟩; have C3 := (C2.later (by first | exact Below.refl _ _ | go_grown)).step hb3; have s3 := (s2.later (by first | exact Below.refl _ _ | go_grown)).below hb3; have S3 := C3.all; have n3 := ne4 C3.lt; obtain ⟨hc3, hf3⟩ := bcell hb3; ((try (have a32 : w2.heap.size < w3.heap.size := Nat.lt_of_lt_of_le (by first | assumption | (simp [go_sem]; done) | (simp only [go_sem]; omega) | (simp [go_sem]; omega)) hb3.size)); (try (have a31 : w1.heap.size < w3.heap.size := Nat.lt_of_lt_of_le (by first | assumption | (simp [go_sem]; done) | (simp only [go_sem]; omega) | (simp [go_sem]; omega)) hb3.size))); clear hb3)
          | (go_at_call 46; refine (HF1.out v2 _ (s3.later (by first | exact Below.refl _ _ | go_grown))).mono ?_; rintro e w4 ⟨rfl, hb4⟩; have C4 := (C3.later (by first | exact Below.refl _ _ | go_grown)).step hb4; have S4 := C4.all; have n4 := ne4 C4.lt; obtain ⟨hc4, hf4⟩ := bcell hb4; ((try (have a43 : w3.heap.size < w4.heap.size := Nat.lt_of_lt_of_le (by first | assumption | (simp [go_sem]; done) | (simp only [go_sem]; omega) | (simp [go_sem]; omega)) hb4.size)); (try (have a42 : w2.heap.size < w4.heap.size := Nat.lt_of_lt_of_le (by first | assumption | (simp [go_sem]; done) | (simp only [go_sem]; omega) | (simp [go_sem]; omega)) hb4.size)); (try (have a41 : w1.heap.size < w4.heap.size := Nat.lt_of_lt_of_le (by first | assumption | (simp [go_sem]; done) | (simp only [go_sem]; omega) | (simp [go_sem]; omega)) hb4.size))); clear hb4))
      all_goals (go_wp2_with fail; go_meet)
      all_goals refine ⟨_, ?_, rfl, rfl, ?_, ?_, ?_, ?_⟩
      all_goals first
        | (first | exact C4.lt | exact C3.lt | exact C2.lt | exact C1.lt)
        | (simp [go_sem, *]; done)
        | (repeat' first
            | exact C4
            | refine CtxS.set_ ?_ (by first | exact C4.lt | exact C3.lt | exact C2.lt | exact C1.lt) _
            | exact C4.later (by go_grown)
            | refine CtxS.drew ?_)
    case rest =>
      clear C1 q0 q1 q2 q3 z1 z0 n1
      obtain ⟨g, hg, rfl, rfl, hm, hr, hgs, C4⟩ := hcut
      have q0 := C4.c0
      have q1 := C4.c1
      go_wp2_with fail
      refine (toRack_any v ds wn _ C4.sl hl).mono ?_
      rintro e w5 ⟨v5, rfl, o5, hb5⟩
      obtain ⟨A5, c5, rfl⟩ := own_form o5
      have C5 := C4.step hb5
      have g0 := (hb5.cell (p := ⟨g, 0, none⟩) hgs).trans hm
      have g1 := (hb5.cell (p := ⟨g, 1, none⟩) hgs).trans hr
      have gl : g < w5.heap.size := Nat.lt_of_lt_of_le hgs hb5.size
      have n5 := ne4 C5.lt
      have T6 : CtxT W v ds wn m rd g (on2 ds wn m rd (inB nq 1 720) ((m - nq) % 720) 0 0) (0) w5 A5 c5 (w5.alloc (.cells #[.slice A5 ds.length c5, .int .i64 wn] 27)) := by
        have hn := (Below.refl w5.heap.size w5).alloc (Nat.le_refl _) (.cells #[.slice A5 ds.length c5, .int .i64 wn] 27)
        exact ⟨C5.step hn, ⟨C5.lt, gl⟩, ⟨(hn.cell (p := ⟨g, 0, none⟩) gl).trans g0, (hn.cell (p := ⟨g, 1, none⟩) gl).trans g1⟩, Blk.new _ _ _, Sl.of_own o5, hn⟩
      clear g0 g1 hm hr
      have q2 := C5.c2
      have q3 := C5.c3
      have z5 := C5.lt
      have S6 := T6.drew.all
      clear o5 hb5 q0 q1 C4 C5
      go_wp2_with fail
      go_cut [11, 12] (fun a11 a12 wr => ∃ g2 : Nat, a11 = .pointer (some ⟨g2, 0, none⟩) ∧ a12 = .int .i64 (on2 ds wn m rd (inB nq 1 720) 0 2 1) ∧ wr.cell? ⟨g2, 0, none⟩ = some (.int .i64 (on2 ds wn m rd (inB nq 1 720) ((m - nq) % 720) 0 0)) ∧ wr.cell? ⟨g2, 1, none⟩ = some (.int .i64 (0)) ∧ CtxT W v ds wn m rd g (on2 ds wn m rd (inB nq 1 720) ((m - nq) % 720) 0 0) (0) w5 A5 c5 wr)
      case first =>
        go_region_held3 (fun w' => w'.cell? ⟨W.heap.size + 1, 0, none⟩ = some (.int .i64 m) ∧ w'.cell? ⟨W.heap.size + 1, 1, none⟩ = some (.int .i64 rd) ∧ w'.cell? ⟨w5.heap.size, 0, none⟩ = some (.slice A5 ds.length c5) ∧ w'.cell? ⟨w5.heap.size, 1, none⟩ = some (.int .i64 wn)) (((try dsimp only); (repeat' apply And.intro) <;> (first | assumption | (simp [go_sem, *]; done) | go_keep)))
          (first
            | (go_at_call 32; refine (toRackState_any m rd _).mono ?_; rintro e w7 ⟨rfl, hb7⟩; have T7 := (T6.step (by first | exact Below.refl _ _ | go_grown)).step hb7; have S7 := T7.all; have n7 := T7.ne; obtain ⟨hc7, hf7⟩ := bcell hb7; (try (have a75 : w5.heap.size + 1 < w7.heap.size := Nat.lt_of_lt_of_le (by first | assumption | (simp [go_sem]; done) | (simp only [go_sem]; omega) | (simp [go_sem]; omega)) hb7.size)); clear hb7)
            | (go_at_call 42; refine (HF2.out _ _ (T7.step (by first | exact Below.refl _ _ | go_grown)).sx).mono ?_; rintro e w8 ⟨rfl, hb8⟩; have T8 := (T7.step (by first | exact Below.refl _ _ | go_grown)).step hb8; have S8 := T8.all; have n8 := T8.ne; obtain ⟨hc8, hf8⟩ := bcell hb8; (try (have a87 : w7.heap.size < w8.heap.size := Nat.lt_of_lt_of_le (by first | assumption | (simp [go_sem]; done) | (simp only [go_sem]; omega) | (simp [go_sem]; omega)) hb8.size)); (try (have a85 : w5.heap.size + 1 < w8.heap.size := Nat.lt_of_lt_of_le (by first | assumption | (simp [go_sem]; done) | (simp only [go_sem]; omega) | (simp [go_sem]; omega)) hb8.size)); clear hb8))
        all_goals (go_wp2_with fail; go_meet)
        all_goals refine ⟨_, rfl, rfl, ?_, ?_, ?_⟩
        all_goals first
          | (simp [go_sem, *]; done)
          | (repeat' first
              | exact T8
              | refine CtxT.set_ ?_ (by first | exact T8.lt | exact T7.lt | (simp [go_sem]; done) | (simp only; omega)) _
              | exact T8.step (by go_grown)
              | refine CtxT.drew ?_)
      case rest =>
        obtain ⟨g2, rfl, rfl, hm2, hr2, T9⟩ := hcut
        have u0 := T9.2.2.1.1
        have u1 := T9.2.2.1.2
        clear T6 S6 q2 q3
        have q0 := T9.1.c0
        have q1 := T9.1.c1
        have q2 := T9.d0
        have q3 := T9.d1
        go_wp2_with fail
        refine (eqRackState_true _ _ _).mono ?_
        rintro e w10 ⟨rfl, hb10⟩
        have TA := T9.step hb10
        have SA := TA.drew.back
        clear hb10 q0 q1 q2 q3 T9 u0 u1 hm2 hr2
        have q0 := TA.1.c0
        have q1 := TA.1.c1
        have q2 := TA.d0
        have q3 := TA.d1
        go_wp2_with fail
        go_region_held3 (fun w' => w'.cell? ⟨W.heap.size, 0, none⟩ = some v ∧ w'.cell? ⟨W.heap.size, 1, none⟩ = some (.int .i64 wn) ∧ w'.cell? ⟨w5.heap.size, 0, none⟩ = some (.slice A5 ds.length c5) ∧ w'.cell? ⟨w5.heap.size, 1, none⟩ = some (.int .i64 wn)) (first | assumption | go_keep)
          (first
            | (go_at_call 21; refine (toRack_any v ds wn _ TA.drew.1.sl hl).mono ?_; rintro e w11 ⟨v11, rfl, o11, hb11⟩; have TB := TA.drew.step hb11; have s11 := Sl.of_own o11; have SB := TB.back; clear o11 hb11)
            | (go_at_call 23; refine (eqRack_true _ _ ds wn _ TB.sx s11).mono ?_; rintro e w12 ⟨rfl, hb12⟩; have TC := TB.step hb12; have SC := TC.back; clear hb12))
        all_goals go_wp2
        all_goals (go_ret; exact ⟨rfl, TC.1.old⟩)
  · go_enter Try.func11, Try.ntmps11
    have C0 := CtxS.new (wn := wn) (m := m) (rd := rd) hv
    clear hv
    go_wp2_with fail
    refine (szRack_big v ds wn _ _ C0.sl (by omega) (by omega)).mono ?_
    rintro e w1 ⟨rfl, hb1⟩
    go_wp2
    go_ret
    exact ⟨rfl, (C0.step hb1).old⟩

set_option maxRecDepth 100000 in
theorem fnExactBackHands_lifted (os : Os) (started : os.Started) (H : Type) (enc : TypeId × Value → H) :
    ReturnsInHanded {} Try.checked os 11 .any (Rows.fnExactBackHandsSpec.pre6 enc Try.prog Try.f11 Rows.fnExactBackHandsRow.domain false) (Rows.fnExactBackHandsSpec.post enc Try.prog Try.f11 false true false false) := by
  refine returnsInHanded_of_change (C := Try.checked) Try.own started (by kernel_rfl) Try.func11
    (ChangeSpec.witness6 (enc := enc) (C := Try.checked) false ⟨#[], #[.agg #[.slice none 0 0, .int .i64 0], .agg #[.int .i64 0, .int .i64 0], .int .i64 0], []⟩ 8 (by kernel_rfl) (by kernel_rfl) (by kernel_rfl) (by kernel_rfl)) ?_
  intro W base args ds gs before hval0 hW hcnd _
  have hval : ∀ (j : Nat) t v, Try.f11.params[j]? = some t → args[j]? = some v → Value.okWide Try.prog W .any base t v := hval0
  have hW' := hW
  have hltB : ∀ x ∈ before, x.block < W.heap.size := fun x hx => hW.lt x hx
  obtain ⟨p, q, hA0, hV, rfl, hfz, hnd⟩ := hW
  have hA : DataW.TrodAll enc Try.prog W 0 (fun _ => true) true Try.f11.params.toList args.toList ds p := hA0
  rw [Try.params11] at hA hval
  obtain ⟨v0, vs0, d0, ds0, p0, q0, hargs, rfl, rfl, h0, r0⟩ := trodAll_cons hA
  obtain ⟨v1, vs1, d1, ds1, p1, q1, rfl, rfl, rfl, h1, r1⟩ := trodAll_cons r0
  obtain ⟨v2, vs2, d2, ds2, p2, q2, rfl, rfl, rfl, h2, r2⟩ := trodAll_cons r1
  obtain ⟨rfl, rfl, rfl⟩ := trodAll_nil r2
  obtain rfl : args = #[v0, v1, v2] := by cases args; simp_all
  clear hA0 hval0 hA hcnd hfz hnd
  have hlt0 : ∀ x ∈ p0, x.block < W.heap.size := fun x hx => hltB x (by simp [hx])
  have hlt1 : ∀ x ∈ p1, x.block < W.heap.size := fun x hx => hltB x (by simp [hx])
  have hlt2 : ∀ x ∈ p2, x.block < W.heap.size := fun x hx => hltB x (by simp [hx])
  obtain ⟨u0_0, u0_1, y0_0, y0_1, m0, rfl, rfl, rfl, g0_0, g0_1⟩ := Joins.open_agg2 Try.underlying24 (by kernel_rfl) (by kernel_rfl) (hval 0 24 v0 rfl rfl) h0
  obtain ⟨ds, hds, bds⟩ := trod_sl Try.underlying22 Try.underlying2 (by kernel_rfl) g0_0 (fun x hx => hlt0 x (by simp [hx]))
  obtain ⟨wn, rfl, bwn⟩ := trod_i64 Try.underlying2 g0_1
  obtain ⟨u1_0, u1_1, y1_0, y1_1, m1, rfl, rfl, rfl, g1_0, g1_1⟩ := Joins.open_agg2 Try.underlying43 (by kernel_rfl) (by kernel_rfl) (hval 1 43 v1 rfl rfl) h1
  obtain ⟨m, rfl, bm⟩ := trod_i64 Try.underlying2 g1_0
  obtain ⟨rd, rfl, brd⟩ := trod_i64 Try.underlying2 g1_1
  obtain ⟨nq, rfl, rfl, rfl, wnq⟩ := open_int Try.underlying2 (hval 2 2 v2 rfl rfl) h2
  have bnq := i64_of_wf wnq
  refine (exactBackHands_walk _ ds wn m rd nq W hds).mono fun e W' ⟨he, hb⟩ => ?_
  subst he
  exact ⟨_, rfl, post_law Try.laidOut hW' rfl rfl (by kernel_rfl) (by kernel_rfl) Try.underlying4 hb⟩

set_option maxHeartbeats 2000000 in
theorem fnExactBackHands_facts : joinedFacts Try.prog 11 Try.f11 Rows.fnExactBackHandsSpec Rows.fnExactBackHandsRow = true := by
  unfold joinedFacts
  simp only [Bool.and_eq_true]
  repeat' apply And.intro
  all_goals first | with_reducible exact Try.laidOut | with_reducible exact Try.g2 | with_reducible exact Try.g24 | with_reducible exact Try.g25 | (rw [Try.g26]; rfl) | (rw [Try.g27]; rfl) | as_aux_lemma => kernel_rfl
/-- The statement. -/
theorem fnExactBackHands_holds : Rows.FnExactBackHandsSaid :=
  OpenClaim.holds_of_wide 11 Try.f11 rfl rfl rfl rfl rfl rfl rfl ⟨rfl, rfl, rfl, rfl, rfl⟩ rfl rfl rfl rfl rfl (by as_aux_lemma => kernel_rfl) Try.func11 fnExactBackHands_facts
    (by as_aux_lemma => exact of_decide_eq_true (by kernel_rfl)) (by as_aux_lemma => unfold Func.isWrapper; rw [if_neg (of_decide_eq_false (by kernel_rfl))]; exact ⟨rfl, rfl⟩)
    (fun os started H enc _ => fnExactBackHands_lifted os started H enc)
#print axioms fnExactBackHands_holds
end Go.Proofs.Ytipakagmbppagaa
