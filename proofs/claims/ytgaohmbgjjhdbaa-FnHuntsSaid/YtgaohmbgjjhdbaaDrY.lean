/- Chimes: what DrawTurnBarrel and DrawPlayBarrel draw: some barrel and numbers. -/
import Derived.Test.YtgaohmbgjjhdbaaDrV
namespace Go.Proofs.Ytgaohmbgjjhdbaa
open Go.RowKit
attribute [local go_sem ↓] Go.wp_at_zero Go.wp_at_succ

theorem below_drewB (w : World) : Below w.heap.size w w.drew := by go_grown
theorem l00From_c (v : Value) (bs : List Int) (W w : World) (hv : SlB W v bs) (hb : Below W.heap.size W w) (g : Nat) (hg : w.heap.size = g) :
    Calls Try.prog 65 #[v] w fun e w' => e = .returned (.pointer (some ⟨g, 0, none⟩)) ∧ Src W w' g v bs 0 ∧ Below w.heap.size w w' := by
  subst hg
  refine (l00From_any v bs w (hv.below hb)).mono fun e w' ⟨he, h1, h2, h3, a, s, ha, hs, hk⟩ => ⟨he, ⟨hv, hb.size, hb.trans (h3.mono hb.size), a, s, ha, hs, hk⟩, h3⟩
theorem cell4B {w : World} {g : Nat} {t : TypeId} {a b c d : Int} (h : Blk w g t #[.int .i64 a, .int .i64 b, .int .i64 c, .int .i64 d]) : ∀ j, j < [a, b, c, d].length → w.cell? ⟨g, j, none⟩ = some (.int .i64 (ix [a, b, c, d] j)) := by
  intro j hj
  match j, hj with
  | 0, _ => exact h.cell 0 rfl
  | 1, _ => exact h.cell 1 rfl
  | 2, _ => exact h.cell 2 rfl
  | 3, _ => exact h.cell 3 rfl
/-- What a draw of a barrel and a number leaves. -/
def TurnPost (W : World) (e : Ending) (w' : World) : Prop := ∃ (v : Value) (st bl : Int) (ps : List (Int × Int)) (x : Int), e = .returned (.tuple #[.agg #[.int .i64 st, .int .i64 bl, v], .int .i64 x]) ∧ w'.ownsRow W.heap.size 62 2 v ps.length (P64 ps) ∧ BentOk st bl ps ∧ Below W.heap.size W w'
/-- What a draw of a barrel and two numbers leaves. -/
def PlayPost (W : World) (e : Ending) (w' : World) : Prop := ∃ (v : Value) (st bl : Int) (ps : List (Int × Int)) (x y : Int), e = .returned (.tuple #[.agg #[.int .i64 st, .int .i64 bl, v], .int .i64 x, .int .i64 y]) ∧ w'.ownsRow W.heap.size 62 2 v ps.length (P64 ps) ∧ BentOk st bl ps ∧ Below W.heap.size W w'

set_option maxRecDepth 100000 in
set_option maxHeartbeats 8000000 in
theorem DrawTurnBarrel_any (vb : Value) (bs : List Int) (W : World) (hv : SlB W vb bs) :
    Calls Try.prog 25 #[vb] W (TurnPost W) := by
  have HP : Hid (∀ e w', (∃ (v : Value) (st bl : Int) (ps : List (Int × Int)) (x : Int), e = .returned (.tuple #[.agg #[.int .i64 st, .int .i64 bl, v], .int .i64 x]) ∧ w'.ownsRow W.heap.size 62 2 v ps.length (P64 ps) ∧ BentOk st bl ps ∧ Below W.heap.size W w') → TurnPost W e w') := fun e w' h => h
  have HV := Lib.hid (fun w (hb : Below W.heap.size W w) g (hg : w.heap.size = g) => l00From_c vb bs W w hv hb g hg)
  clear hv
  go_enter Try.func25, Try.ntmps25
  have HK := Lib.hid (bx1 W 33 #[.int .i64 0, .int .i64 0, .slice none 0 0])
  go_wp2_with fail
  refine (HV.out _ (by go_grown) (W.heap.size + 1) (by simp)).mono ?_
  rintro e w1 ⟨rfl, hs, hb1⟩
  have B1 := Lib.hid (HK.out.below hb1)
  have z1 : W.heap.size + 1 < w1.heap.size := hs.lt
  have S1 := Lib.hid hs
  clear hs hb1 HK HV
  go_wp2_with fail
  refine (l22Bent_any W _ _ vb bs 0 S1.out (by omega)).mono ?_
  rintro e w2 ⟨v, st, bl, ps, rfl, ho, hok, hs, hg2⟩
  obtain ⟨A, C, rfl⟩ := own_form ho
  have B2 := Lib.hid (B1.out.grown hg2 (by first | (simp; done) | (simp; omega) | omega))
  have z2 := hg2.size
  have O2 := Lib.hid ho
  have S2 := Lib.hid hs
  have HOK := Lib.hid hok
  obtain ⟨⟨st0, st1⟩, _, _⟩ := hok
  clear hs hg2 B1 ho S1
  have dw : Below w2.heap.size w2 (w2.alloc (.cells #[.int .i64 st, .int .i64 bl, .slice A ps.length C] 33)) := by go_grown
  have B3 := Lib.hid (B2.out.below dw)
  have C3 : Hid (Blk (w2.alloc (.cells #[.int .i64 st, .int .i64 bl, .slice A ps.length C] 33)) w2.heap.size 33 #[.int .i64 st, .int .i64 bl, .slice A ps.length C]) := Blk.new _ _ _
  have O3 := Lib.hid (own_below O2.out dw)
  have S3 := Lib.hid (S2.out.below dw)
  have y2 : (w2.alloc (.cells #[.int .i64 st, .int .i64 bl, .slice A ps.length C] 33)).heap.size = w2.heap.size + 1 := by simp
  clear dw B2 O2 S2
  have n1 : ¬ w2.heap.size = W.heap.size := by omega
  have n2 : ¬ W.heap.size = w2.heap.size := by omega
  have es : IntKind.i64.wrap (st + 1) = st + 1 := IntWalk.i64_in _ (by omega)
  have D3 := Lib.hid (C3.out.drew)
  have E3 := Lib.hid (S3.out.below (below_drewB _))
  have F3 := Lib.hid (B3.out.drew)
  have P3 := Lib.hid (O3.out.drew)
  go_wp2_with fail
  have q0 := D3.out.cell 0 rfl
  have q1 := D3.out.cell 1 rfl
  have q2 := D3.out.cell 2 rfl
  go_region_held3 (fun w' => w'.cell? ⟨w2.heap.size, 0, none⟩ = some (.int .i64 st) ∧ w'.cell? ⟨w2.heap.size, 1, none⟩ = some (.int .i64 bl) ∧ w'.cell? ⟨w2.heap.size, 2, none⟩ = some (.slice A ps.length C)) (first | (with_reducible exact ⟨q0, q1, q2⟩) | ((try dsimp only); refine ⟨?_, ?_, ?_⟩ <;> (first | (simp [go_sem, *]; done))) | go_keep)
    (first
      | (go_at_call 67; with_reducible show Calls _ _ #[_, .int .i64 20] _ _; refine (pick_any W _ _ vb bs _ S4.out (by omega) _ (by omega)).mono ?_; rintro e w5 ⟨y, ⟨y0, y1⟩, rfl, hs, hg⟩; have B5 := Lib.hid (B4.out.grown hg (by first | (simp; done) | (simp; omega) | omega)); have C5 := HC4.out.grown hg (by first | (simp; done) | (simp; omega) | omega); have HC5 := Lib.hid C5; have O5 := Lib.hid (O4.out.kept hg (own_apartB O4.out (by omega))); have S5 := Lib.hid hs; have z5 := hg.size; have q0 := C5.cell 0 rfl; have q1 := C5.cell 1 rfl; have q2 := C5.cell 2 rfl; have zq := C5.lt; clear hs hg C5; have ey : y.tdiv 19 = y / 19 := (Int.tdiv_eq_ediv_of_nonneg (by omega)); have ey2 : IntKind.i64.wrap (y / 19) = y / 19 := (IntWalk.i64_in _ (by omega)); have ez : IntKind.i64.wrap (x - y / 19) = x - y / 19 := (IntWalk.i64_in _ (by omega)); have p0 := B5.out.cell 0 rfl; have p1 := B5.out.cell 1 rfl; have p2 := B5.out.cell 2 rfl; have f0 := B5.out.frozen 0; have f1 := B5.out.frozen 1; have f2 := B5.out.frozen 2; have zp := B5.out.lt)
      | (go_at_call 67; refine (pick_any W _ _ vb bs _ E3.out (by omega) _ (by omega)).mono ?_; rintro e w4 ⟨x, ⟨x0, x1⟩, rfl, hs, hg⟩; have B4 := Lib.hid (F3.out.grown hg (by first | (simp; done) | (simp; omega) | omega)); have C4 := D3.out.grown hg (by first | (simp; done) | (simp; omega) | omega); have HC4 := Lib.hid C4; have O4 := Lib.hid (P3.out.kept hg (own_apartB P3.out (by omega))); have S4 := Lib.hid hs; have z4 := hg.size; have q0 := C4.cell 0 rfl; have q1 := C4.cell 1 rfl; have q2 := C4.cell 2 rfl; have zq := C4.lt; clear hs hg C4))
  all_goals
    go_wp2
    try simp only [Exit.inBlock, Exit.then]
    refine bodyPost_ret (v := .tuple #[.agg #[.int .i64 st, .int .i64 bl, .slice A ps.length C], .int .i64 (x - y / 19)]) ?_ rfl ?_
    · simp [results, Try.results25, go_sem, *]
    · refine HP.out _ _ ⟨_, st, bl, ps, _, rfl, own_mono (base := W.heap.size + 1) ?_ (by omega), HOK.out, ?_⟩
      · repeat (refine own_setCell ?_ (by first | (simp; done) | (simp; omega) | omega) _)
        exact own_mono O5.out (by omega)
      · have hold := S5.out.old
        go_grown

set_option maxRecDepth 100000 in
set_option maxHeartbeats 8000000 in
theorem DrawPlayBarrel_any (vb : Value) (bs : List Int) (W : World) (hv : SlB W vb bs) :
    Calls Try.prog 26 #[vb] W (PlayPost W) := by
  have HP : Hid (∀ e w', (∃ (v : Value) (st bl : Int) (ps : List (Int × Int)) (x y : Int), e = .returned (.tuple #[.agg #[.int .i64 st, .int .i64 bl, v], .int .i64 x, .int .i64 y]) ∧ w'.ownsRow W.heap.size 62 2 v ps.length (P64 ps) ∧ BentOk st bl ps ∧ Below W.heap.size W w') → PlayPost W e w') := fun e w' h => h
  have HV := Lib.hid (fun w (hb : Below W.heap.size W w) g (hg : w.heap.size = g) => l00From_c vb bs W w hv hb g hg)
  clear hv
  go_enter Try.func26, Try.ntmps26
  have HK := Lib.hid (bx1 W 33 #[.int .i64 0, .int .i64 0, .slice none 0 0])
  go_wp2_with fail
  refine (HV.out _ (by go_grown) (W.heap.size + 1) (by simp)).mono ?_
  rintro e w1 ⟨rfl, hs, hb1⟩
  have B1 := Lib.hid (HK.out.below hb1)
  have z1 : W.heap.size + 1 < w1.heap.size := hs.lt
  have S1 := Lib.hid hs
  clear hs hb1 HK HV
  go_wp2_with fail
  refine (l22Bent_any W _ _ vb bs 0 S1.out (by omega)).mono ?_
  rintro e w2 ⟨v, st, bl, ps, rfl, ho, hok, hs, hg2⟩
  obtain ⟨A, C, rfl⟩ := own_form ho
  have B2 := Lib.hid (B1.out.grown hg2 (by first | (simp; done) | (simp; omega) | omega))
  have z2 := hg2.size
  have O2 := Lib.hid ho
  have S2 := Lib.hid hs
  have HOK := Lib.hid hok
  obtain ⟨⟨st0, st1⟩, _, _⟩ := hok
  clear hs hg2 B1 ho S1
  have dw : Below w2.heap.size w2 (w2.alloc (.cells #[.int .i64 st, .int .i64 bl, .slice A ps.length C] 33)) := by go_grown
  have B3 := Lib.hid (B2.out.below dw)
  have C3 : Hid (Blk (w2.alloc (.cells #[.int .i64 st, .int .i64 bl, .slice A ps.length C] 33)) w2.heap.size 33 #[.int .i64 st, .int .i64 bl, .slice A ps.length C]) := Blk.new _ _ _
  have O3 := Lib.hid (own_below O2.out dw)
  have S3 := Lib.hid (S2.out.below dw)
  have y2 : (w2.alloc (.cells #[.int .i64 st, .int .i64 bl, .slice A ps.length C] 33)).heap.size = w2.heap.size + 1 := by simp
  clear dw B2 O2 S2
  have n1 : ¬ w2.heap.size = W.heap.size := by omega
  have n2 : ¬ W.heap.size = w2.heap.size := by omega
  have q0 := C3.out.cell 0 rfl
  have zq := C3.out.lt
  go_wp2_with fail
  refine (pick_any W _ _ vb bs _ S3.out (by omega) _ (by omega)).mono ?_
  rintro e w4 ⟨x, ⟨x0, x1⟩, rfl, hs, hg⟩
  have B4 := Lib.hid (B3.out.grown hg (by first | (simp; done) | (simp; omega) | omega))
  have C4 := Lib.hid (C3.out.grown hg (by first | (simp; done) | (simp; omega) | omega))
  have O4 := Lib.hid (O3.out.kept hg (own_apartB O3.out (by omega)))
  have S4 := Lib.hid hs
  have z4 := hg.size
  rw [y2] at z4
  clear hs hg B3 C3 O3 S3
  clear q0 zq
  go_wp2_with fail
  refine (pick_any W _ _ vb bs _ S4.out (by omega) _ (by omega)).mono ?_
  rintro e w5 ⟨y, ⟨y0, y1⟩, rfl, hs, hg⟩
  have B5 := Lib.hid (B4.out.grown hg (by first | (simp; done) | (simp; omega) | omega))
  have C5 := Lib.hid (C4.out.grown hg (by first | (simp; done) | (simp; omega) | omega))
  have O5 := Lib.hid (O4.out.kept hg (own_apartB O4.out (by omega)))
  have S5 := Lib.hid hs
  have z5 := hg.size
  have ey : y.tdiv 19 = y / 19 := Int.tdiv_eq_ediv_of_nonneg (by omega)
  have ey2 : IntKind.i64.wrap (y / 19) = y / 19 := IntWalk.i64_in _ (by omega)
  have ez : IntKind.i64.wrap (x - y / 19) = x - y / 19 := IntWalk.i64_in _ (by omega)
  clear hs hg B4 C4 O4 S4
  go_wp2_with fail
  refine (pick_any W _ _ vb bs _ S5.out (by omega) _ (by omega)).mono ?_
  rintro e w6 ⟨n, _, rfl, hs, hg⟩
  have B6 := Lib.hid (B5.out.grown hg (by first | (simp; done) | (simp; omega) | omega))
  have C6 := Lib.hid (C5.out.grown hg (by first | (simp; done) | (simp; omega) | omega))
  have O6 := Lib.hid (O5.out.kept hg (own_apartB O5.out (by omega)))
  have S6 := Lib.hid hs
  have z6 := hg.size
  clear hs hg B5 C5 O5 S5
  go_wp2_with fail
  refine (one_any W _ _ vb bs _ S6.out (by omega) _ (by omega)).mono ?_
  rintro e w7 ⟨b, rfl, hs, hg⟩
  have B7 := Lib.hid (B6.out.grown hg (by first | (simp; done) | (simp; omega) | omega))
  have C7 := Lib.hid (C6.out.grown hg (by first | (simp; done) | (simp; omega) | omega))
  have O7 := Lib.hid (O6.out.kept hg (own_apartB O6.out (by omega)))
  have S7 := Lib.hid hs
  have z7 := hg.size
  clear hs hg B6 C6 O6 S6
  cases b with
  | false =>
    have p0 := B7.out.cell 0 rfl
    have p1 := B7.out.cell 1 rfl
    have p2 := B7.out.cell 2 rfl
    have f0 := B7.out.frozen 0
    have f1 := B7.out.frozen 1
    have f2 := B7.out.frozen 2
    have zp := B7.out.lt
    have q0 := C7.out.cell 0 rfl
    have q1 := C7.out.cell 1 rfl
    have q2 := C7.out.cell 2 rfl
    have zq := C7.out.lt
    go_wp2
    try simp only [Exit.inBlock, Exit.then]
    refine bodyPost_ret (v := .tuple #[.agg #[.int .i64 st, .int .i64 bl, .slice A ps.length C], .int .i64 (x - y / 19), .int .i64 n]) ?_ rfl ?_
    · simp [results, Try.results26, go_sem, *]
    · refine HP.out _ _ ⟨_, st, bl, ps, _, _, rfl, own_mono (base := W.heap.size + 1) ?_ (by omega), HOK.out, ?_⟩
      · repeat (refine own_setCell ?_ (by first | (simp; done) | (simp; omega) | omega) _)
        exact own_mono O7.out (by omega)
      · have hold := S7.out.old
        go_grown
  | true =>
    have k4 := Blk.new w7 2 #[.int .i64 (-1), .int .i64 0, .int .i64 256, .int .i64 257]
    have lw : Below w7.heap.size w7 (w7.alloc (.cells #[.int .i64 (-1), .int .i64 0, .int .i64 256, .int .i64 257] 2)) := by go_grown
    go_wp2_with fail
    refine (among_any W _ _ vb bs _ (S7.out.below lw) (by omega) w7.heap.size [-1, 0, 256, 257] 4 (by decide) (by have := S7.out.lt; omega) (by decide) (by decide) (cell4B k4) k4.lt).mono ?_
    rintro e w8 ⟨m, _, rfl, hs, hg0⟩
    have hg : w7.grownBy w8 (some (W.heap.size + 1)) := grown_trans (grown_of_below lw _) hg0
    have B8 := Lib.hid (B7.out.grown hg (by first | (simp; done) | (simp; omega) | omega))
    have C8 := Lib.hid (C7.out.grown hg (by first | (simp; done) | (simp; omega) | omega))
    have O8 := Lib.hid (O7.out.kept hg (own_apartB O7.out (by omega)))
    have S8 := Lib.hid hs
    clear hs hg hg0 B7 C7 O7 S7 k4 lw
    have p0 := B8.out.cell 0 rfl
    have p1 := B8.out.cell 1 rfl
    have p2 := B8.out.cell 2 rfl
    have f0 := B8.out.frozen 0
    have f1 := B8.out.frozen 1
    have f2 := B8.out.frozen 2
    have zp := B8.out.lt
    have q0 := C8.out.cell 0 rfl
    have q1 := C8.out.cell 1 rfl
    have q2 := C8.out.cell 2 rfl
    have zq := C8.out.lt
    go_wp2
    try simp only [Exit.inBlock, Exit.then]
    refine bodyPost_ret (v := .tuple #[.agg #[.int .i64 st, .int .i64 bl, .slice A ps.length C], .int .i64 (x - y / 19), .int .i64 m]) ?_ rfl ?_
    · simp [results, Try.results26, go_sem, *]
    · refine HP.out _ _ ⟨_, st, bl, ps, _, _, rfl, own_mono (base := W.heap.size + 1) ?_ (by omega), HOK.out, ?_⟩
      · repeat (refine own_setCell ?_ (by first | (simp; done) | (simp; omega) | omega) _)
        exact own_mono O8.out (by omega)
      · have hold := S8.out.old
        go_grown
end Go.Proofs.Ytgaohmbgjjhdbaa
