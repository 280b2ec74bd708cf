/- Racks: RunRack in the program and in the reference; NextStrike of the reference. -/
import Derived.Test.YtipakagmbppagaaRkO
namespace Go.Proofs.Ytipakagmbppagaa
open Go.RowKit
attribute [local go_sem ↓] Go.wp_at_zero Go.wp_at_succ

set_option maxHeartbeats 4000000 in
theorem NextStrike_s (v : Value) (ds : List Int) (wn m rd : Int) (w : World) (hv : Sl w v ds) (hs : stB ds wn m rd = true) (K : Nat) (hK : K < 120) (hp : 0 < itB ds wn m rd K) (hn : ∀ j, j < K → ¬ 0 < itB ds wn m rd j) :
    Calls Try.prog 44 #[.agg #[v, .int .i64 wn], .agg #[.int .i64 m, .int .i64 rd]] w fun e w' => e = .returned (.tuple #[.int .i64 (K + 1), .int .i64 (itB ds wn m rd K), .int .i64 0]) ∧ Below w.heap.size w w' := by
  have H1 := Lib.hid (fun w' (hb : Below w.heap.size w w') => l21State_any v ds wn m rd w' (hv.below hb))
  obtain ⟨hr, hst⟩ := stB_iff.1 hs
  have H2 := Lib.hid (fun k w' (hb : Below w.heap.size w w') => l21TickIt_any v ds wn m rd k w' (hv.below hb) hr)
  have HB := Lib.hid hs
  have HN := Lib.hid hn
  have HM := Lib.hid (itM_zero hst.1)
  clear hv hs hr hst hn
  go_enter Try.func44, Try.ntmps44
  obtain ⟨k0, k1⟩ := bx2 w 27 34 #[v, .int .i64 wn] #[.int .i64 m, .int .i64 rd]
  have HK0 := Lib.hid k0
  have HK1 := Lib.hid k1
  clear k0 k1
  go_wp2_with fail
  refine (H1.out _ (by go_grown)).mono ?_
  rintro e w1 ⟨rfl, hb1⟩
  rw [HB.out]
  have J0 := Lib.hid (HK0.out.below hb1)
  have J1 := Lib.hid (HK1.out.below hb1)
  have B1 : Below w.heap.size w w1 := Below.trans (by go_grown) (hb1.mono (by simp; omega))
  clear hb1 HK0 HK1
  go_wp2
  go_loopw [7] (fun n wr => ∃ k : Nat, k ≤ K ∧ n = .int .i64 (k + 1) ∧ Blk wr w.heap.size 27 #[v, .int .i64 wn] ∧ Blk wr (w.heap.size + 1) 34 #[.int .i64 (itM m k), .int .i64 (itR ds wn m rd k)] ∧ Below w.heap.size w wr) (fun n _ => K + 1 - (intOf n).toNat)
  case atStart => exact ⟨0, by omega, by go_num, J0.out, by rw [HM.out]; exact J1.out, B1⟩
  case round =>
    obtain ⟨k, hk, rfl, b0, b1, hB⟩ := hrel
    have q0 := b0.cell 0 rfl
    have q1 := b0.cell 1 rfl
    have q2 := b1.cell 0 rfl
    have q3 := b1.cell 1 rfl
    have P0 := Lib.hid b0
    have P1 := Lib.hid b1
    clear b0 b1
    go_wp2_with fail
    refine (H2.out k _ hB).mono ?_
    rintro e w2 ⟨rfl, hb2⟩
    have b0 := P0.out.below hb2
    have b1 := P1.out.below hb2
    have B2 := hB.trans (hb2.mono hB.size)
    have q2 := b1.cell 0 rfl
    have q3 := b1.cell 1 rfl
    have f2 := b1.frozen 0
    have f3 := b1.frozen 1
    have z1 := b1.lt
    have P0 := Lib.hid b0
    have P1 := Lib.hid b1
    clear b0 b1 hb2 hB
    by_cases he : k = K
    · subst he
      go_wp2
      go_ret3
      exact ⟨rfl, by go_grown⟩
    · have hno := HN.out k (by omega)
      go_wp2
      go_roundw
      case rel =>
        refine ⟨k + 1, by omega, by go_num, ?_, ?_, ?_⟩
        · refine Blk.alloc (Blk.far (Blk.far P0.out ?_ _) ?_ _) _ <;> simp
        · exact Blk.alloc (Blk.put2 P1.out _ _) _
        · go_grown
      case measure => simp [intOf]; omega
set_option maxHeartbeats 2000000 in
theorem RunRack_i1 (v : Value) (ds : List Int) (wn m rd n : Int) (w : World) (hv : Sl w v ds) (hs : stB ds wn m rd = false) :
    Calls Try.prog 43 #[.agg #[v, .int .i64 wn], .agg #[.int .i64 m, .int .i64 rd], .int .i64 n] w fun e w' => ∃ v', e = .returned (.tuple #[.agg #[.int .i64 0, .int .i64 0], v', .int .i64 1]) ∧ w'.ownsRow w.heap.size 2 1 v' ([] : List Int).length (I64 []) ∧ Below w.heap.size w w' := by
  have H1 := Lib.hid (fun w' (hb : Below w.heap.size w w') => ValidRackState_i v ds wn m rd w' (hv.below hb))
  have HB := Lib.hid hs
  clear hv hs
  go_enter Try.func43, Try.ntmps43
  obtain ⟨k0, k1, k2⟩ := bx3 w 27 34 34 #[v, .int .i64 wn] #[.int .i64 m, .int .i64 rd] #[.int .i64 0, .int .i64 0]
  have HK0 := Lib.hid k0
  have HK1 := Lib.hid k1
  have HK2 := Lib.hid k2
  clear k0 k1 k2
  go_wp2_with fail
  refine (H1.out _ (by go_grown)).mono ?_
  rintro e w1 ⟨rfl, hb1⟩
  rw [HB.out]
  have j2 := HK2.out.below hb1
  have J0 := Lib.hid (HK0.out.below hb1)
  have J1 := Lib.hid (HK1.out.below hb1)
  have J2 := Lib.hid j2
  have q4 := j2.cell 0 rfl
  have q5 := j2.cell 1 rfl
  have f4 := j2.frozen 0
  have f5 := j2.frozen 1
  have z2 := j2.lt
  have B1 : Below w.heap.size w w1 := Below.trans (by go_grown) (hb1.mono (by simp; omega))
  clear j2 hb1 HK0 HK1 HK2
  go_wp2
  try simp only [Exit.inBlock, Exit.then]
  refine bodyPost_ret (v := .tuple #[.agg #[.int .i64 0, .int .i64 0], .slice none 0 0, .int .i64 1]) ?_ rfl ?_
  · simp [results, Try.results43, go_sem, q4, q5]
  exact ⟨_, rfl, ⟨rfl, .inl ⟨rfl, rfl⟩⟩, by go_grown⟩

set_option maxHeartbeats 2000000 in
theorem RunRack_s1 (v : Value) (ds : List Int) (wn m rd n : Int) (w : World) (hv : Sl w v ds) (hs : stB ds wn m rd = false) :
    Calls Try.prog 58 #[.agg #[v, .int .i64 wn], .agg #[.int .i64 m, .int .i64 rd], .int .i64 n] w fun e w' => ∃ v', e = .returned (.tuple #[.agg #[.int .i64 0, .int .i64 0], v', .int .i64 1]) ∧ w'.ownsRow w.heap.size 2 1 v' ([] : List Int).length (I64 []) ∧ Below w.heap.size w w' := by
  have H1 := Lib.hid (fun w' (hb : Below w.heap.size w w') => l21State_any v ds wn m rd w' (hv.below hb))
  have HB := Lib.hid hs
  clear hv hs
  go_enter Try.func58, Try.ntmps58
  obtain ⟨k0, k1, k2⟩ := bx3 w 27 34 34 #[v, .int .i64 wn] #[.int .i64 m, .int .i64 rd] #[.int .i64 0, .int .i64 0]
  have HK0 := Lib.hid k0
  have HK1 := Lib.hid k1
  have HK2 := Lib.hid k2
  clear k0 k1 k2
  go_wp2_with fail
  refine (H1.out _ (by go_grown)).mono ?_
  rintro e w1 ⟨rfl, hb1⟩
  rw [HB.out]
  have j2 := HK2.out.below hb1
  have J0 := Lib.hid (HK0.out.below hb1)
  have J1 := Lib.hid (HK1.out.below hb1)
  have J2 := Lib.hid j2
  have q4 := j2.cell 0 rfl
  have q5 := j2.cell 1 rfl
  have f4 := j2.frozen 0
  have f5 := j2.frozen 1
  have z2 := j2.lt
  have B1 : Below w.heap.size w w1 := Below.trans (by go_grown) (hb1.mono (by simp; omega))
  clear j2 hb1 HK0 HK1 HK2
  go_wp2
  try simp only [Exit.inBlock, Exit.then]
  refine bodyPost_ret (v := .tuple #[.agg #[.int .i64 0, .int .i64 0], .slice none 0 0, .int .i64 1]) ?_ rfl ?_
  · simp [results, Try.results58, go_sem, q4, q5]
  exact ⟨_, rfl, ⟨rfl, .inl ⟨rfl, rfl⟩⟩, by go_grown⟩

set_option maxHeartbeats 2000000 in
theorem RunRack_i2 (v : Value) (ds : List Int) (wn m rd n : Int) (w : World) (hv : Sl w v ds) (hs : stB ds wn m rd = true) (hn : inB n 0 3000 = false) :
    Calls Try.prog 43 #[.agg #[v, .int .i64 wn], .agg #[.int .i64 m, .int .i64 rd], .int .i64 n] w fun e w' => ∃ v', e = .returned (.tuple #[.agg #[.int .i64 0, .int .i64 0], v', .int .i64 2]) ∧ w'.ownsRow w.heap.size 2 1 v' ([] : List Int).length (I64 []) ∧ Below w.heap.size w w' := by
  have H1 := Lib.hid (fun w' (hb : Below w.heap.size w w') => ValidRackState_i v ds wn m rd w' (hv.below hb))
  have HB := Lib.hid hs
  clear hv hs
  go_enter Try.func43, Try.ntmps43
  obtain ⟨k0, k1, k2⟩ := bx3 w 27 34 34 #[v, .int .i64 wn] #[.int .i64 m, .int .i64 rd] #[.int .i64 0, .int .i64 0]
  have HK0 := Lib.hid k0
  have HK1 := Lib.hid k1
  have HK2 := Lib.hid k2
  clear k0 k1 k2
  go_wp2_with fail
  refine (H1.out _ (by go_grown)).mono ?_
  rintro e w1 ⟨rfl, hb1⟩
  rw [HB.out]
  have j2 := HK2.out.below hb1
  have J0 := Lib.hid (HK0.out.below hb1)
  have J1 := Lib.hid (HK1.out.below hb1)
  have J2 := Lib.hid j2
  have q4 := j2.cell 0 rfl
  have q5 := j2.cell 1 rfl
  have f4 := j2.frozen 0
  have f5 := j2.frozen 1
  have z2 := j2.lt
  have B1 : Below w.heap.size w w1 := Below.trans (by go_grown) (hb1.mono (by simp; omega))
  clear j2 hb1 HK0 HK1 HK2
  go_wp2_with (go_at_call 71; refine (within_any _ _ _ _).mono ?_; rintro e w' ⟨rfl, rfl⟩)
  try simp only [Exit.inBlock, Exit.then]
  refine bodyPost_ret (v := .tuple #[.agg #[.int .i64 0, .int .i64 0], .slice none 0 0, .int .i64 2]) ?_ rfl ?_
  · simp [results, Try.results43, go_sem, q4, q5]
  exact ⟨_, rfl, ⟨rfl, .inl ⟨rfl, rfl⟩⟩, by go_grown⟩

set_option maxHeartbeats 2000000 in
theorem RunRack_s2 (v : Value) (ds : List Int) (wn m rd n : Int) (w : World) (hv : Sl w v ds) (hs : stB ds wn m rd = true) (hn : inB n 0 3000 = false) :
    Calls Try.prog 58 #[.agg #[v, .int .i64 wn], .agg #[.int .i64 m, .int .i64 rd], .int .i64 n] w fun e w' => ∃ v', e = .returned (.tuple #[.agg #[.int .i64 0, .int .i64 0], v', .int .i64 2]) ∧ w'.ownsRow w.heap.size 2 1 v' ([] : List Int).length (I64 []) ∧ Below w.heap.size w w' := by
  have H1 := Lib.hid (fun w' (hb : Below w.heap.size w w') => l21State_any v ds wn m rd w' (hv.below hb))
  have HB := Lib.hid hs
  clear hv hs
  go_enter Try.func58, Try.ntmps58
  obtain ⟨k0, k1, k2⟩ := bx3 w 27 34 34 #[v, .int .i64 wn] #[.int .i64 m, .int .i64 rd] #[.int .i64 0, .int .i64 0]
  have HK0 := Lib.hid k0
  have HK1 := Lib.hid k1
  have HK2 := Lib.hid k2
  clear k0 k1 k2
  go_wp2_with fail
  refine (H1.out _ (by go_grown)).mono ?_
  rintro e w1 ⟨rfl, hb1⟩
  rw [HB.out]
  have j2 := HK2.out.below hb1
  have J0 := Lib.hid (HK0.out.below hb1)
  have J1 := Lib.hid (HK1.out.below hb1)
  have J2 := Lib.hid j2
  have q4 := j2.cell 0 rfl
  have q5 := j2.cell 1 rfl
  have f4 := j2.frozen 0
  have f5 := j2.frozen 1
  have z2 := j2.lt
  have B1 : Below w.heap.size w w1 := Below.trans (by go_grown) (hb1.mono (by simp; omega))
  clear j2 hb1 HK0 HK1 HK2
  go_wp2_with (go_at_call 80; refine (l00In_any _ _ _ _).mono ?_; rintro e w' ⟨rfl, rfl⟩)
  try simp only [Exit.inBlock, Exit.then]
  refine bodyPost_ret (v := .tuple #[.agg #[.int .i64 0, .int .i64 0], .slice none 0 0, .int .i64 2]) ?_ rfl ?_
  · simp [results, Try.results58, go_sem, q4, q5]
  exact ⟨_, rfl, ⟨rfl, .inl ⟨rfl, rfl⟩⟩, by go_grown⟩

set_option maxHeartbeats 8000000 in
theorem RunRack_i0 (v : Value) (ds : List Int) (wn m rd : Int) (N : Nat) (w : World) (hv : Sl w v ds) (hs : stB ds wn m rd = true) (hN : N ≤ 3000) :
    Calls Try.prog 43 #[.agg #[v, .int .i64 wn], .agg #[.int .i64 m, .int .i64 rd], .int .i64 N] w fun e w' => ∃ v', e = .returned (.tuple #[.agg #[.int .i64 (itM m N), .int .i64 (itR ds wn m rd N)], v', .int .i64 0]) ∧ w'.ownsRow w.heap.size 2 1 v' (itL ds wn m rd N).length (I64 (itL ds wn m rd N)) ∧ Below w.heap.size w w' := by
  have H1 := Lib.hid (fun w' (hb : Below w.heap.size w w') => ValidRackState_i v ds wn m rd w' (hv.below hb))
  obtain ⟨hr, hst⟩ := stB_iff.1 hs
  have H2 := Lib.hid (fun k w' (hb : Below w.heap.size w w') => tickIt_any v ds wn m rd k w' (hv.below hb) hr)
  have HB := Lib.hid hs
  have HM := Lib.hid (itM_zero hst.1)
  have e1 : inB (N : Int) 0 3000 = true := inB_t (by omega) (by omega)
  clear hv hs hr hst
  go_enter Try.func43, Try.ntmps43
  obtain ⟨k0, k1, k2⟩ := bx3 w 27 34 34 #[v, .int .i64 wn] #[.int .i64 m, .int .i64 rd] #[.int .i64 0, .int .i64 0]
  have HK0 := Lib.hid k0
  have HK1 := Lib.hid k1
  have HK2 := Lib.hid k2
  clear k0 k1 k2
  go_wp2_with fail
  refine (H1.out _ (by go_grown)).mono ?_
  rintro e w1 ⟨rfl, hb1⟩
  rw [HB.out]
  have j2 := HK2.out.below hb1
  have J0 := Lib.hid (HK0.out.below hb1)
  have J1 := Lib.hid (HK1.out.below hb1)
  have J2 := Lib.hid j2
  have q4 := j2.cell 0 rfl
  have q5 := j2.cell 1 rfl
  have f4 := j2.frozen 0
  have f5 := j2.frozen 1
  have z2 := j2.lt
  have B1 : Below w.heap.size w w1 := Below.trans (by go_grown) (hb1.mono (by simp; omega))
  clear j2 hb1 HK0 HK1 HK2
  go_wp2_with (go_at_call 71; refine (within_any _ _ _ _).mono ?_; rintro e w' ⟨rfl, rfl⟩)
  go_loopw [2, 9] (fun a x wr => ∃ k : Nat, k ≤ N ∧ a = .int .i64 ((N : Int) - (k : Int)) ∧ wr.ownsRow (w.heap.size + 3) 2 1 x (itL ds wn m rd k).length (I64 (itL ds wn m rd k)) ∧ Blk wr w.heap.size 27 #[v, .int .i64 wn] ∧ Blk wr (w.heap.size + 1) 34 #[.int .i64 (itM m k), .int .i64 (itR ds wn m rd k)] ∧ Blk wr (w.heap.size + 1 + 1) 34 #[.int .i64 0, .int .i64 0] ∧ Below w.heap.size w wr) (fun a _ _ => (intOf a).toNat)
  case atStart => exact ⟨0, by omega, by go_num, World.ownsRow_nil _ _ _ _, J0.out, by rw [HM.out]; exact J1.out, J2.out, B1⟩
  case round =>
    obtain ⟨k, hk, rfl, hown, b0, b1, b2, hB⟩ := hrel
    have q0 := b0.cell 0 rfl
    have q1 := b0.cell 1 rfl
    have q2 := b1.cell 0 rfl
    have q3 := b1.cell 1 rfl
    have q4 := b2.cell 0 rfl
    have q5 := b2.cell 1 rfl
    have f4 := b2.frozen 0
    have f5 := b2.frozen 1
    have z2 := b2.lt
    have P0 := Lib.hid b0
    have P1 := Lib.hid b1
    have P2 := Lib.hid b2
    obtain ⟨Ax, cx, rfl⟩ := own_form hown
    have HO := Lib.hid hown
    clear b0 b1 b2 hown
    by_cases hlt : k < N
    · have i1 : (0 : Int) < (N : Int) - (k : Int) := by omega
      have i2 : (k : Int) < (N : Int) := by omega
      go_wp2_with fail
      refine (H2.out k _ hB).mono ?_
      rintro e w2 ⟨rfl, hb2⟩
      have B2 := hB.trans (hb2.mono hB.size)
      have O2 := own_below HO.out hb2
      have b0 := P0.out.below hb2
      have b1 := P1.out.below hb2
      have b2 := P2.out.below hb2
      clear q0 q1 q2 q3 q4 q5 f4 f5 z2 P0 P1 P2 HO
      have hll : (itL ds wn m rd k).length ≤ 134217728 := by have := itL_length ds wn m rd k; omega
      have z2 := b2.lt
      have P0 := Lib.hid b0
      have P1 := Lib.hid b1
      have P2 := Lib.hid b2
      have hsz : w.heap.size + 3 ≤ w2.heap.size + 1 := by omega
      by_cases hp : 0 < itB ds wn m rd k
      · have HL := Lib.hid (itL_pos hp)
        have HO := Lib.hid (O2.alloc (.cells #[.int .i64 (itM m (k + 1)), .int .i64 (itR ds wn m rd (k + 1))] 34))
        have HE := Lib.hid (own_ne O2 (k := w2.heap.size) (Or.inr (Nat.le_refl _)))
        clear b0 b1 b2 O2 hb2 hB
        go_wp2_with (at_builtin; refine wpList_app1g rfl _ _ rfl (w.heap.size + 3) _ (itL ds wn m rd k) rfl HO.out _ _ rfl (by simp) hll (by simp; omega) ?_; intro v3 w3 hown3 hb3 hg3; have c0 : w3.cell? ⟨w2.heap.size, 0, none⟩ = _ := hg3.cell ((Blk.new w2 34 #[.int .i64 (itM m (k + 1)), .int .i64 (itR ds wn m rd (k + 1))]).cell 0 rfl) HE.out; have c1 : w3.cell? ⟨w2.heap.size, 1, none⟩ = _ := hg3.cell ((Blk.new w2 34 #[.int .i64 (itM m (k + 1)), .int .i64 (itR ds wn m rd (k + 1))]).cell 1 rfl) HE.out; have p0 := (P0.out.alloc (.cells #[.int .i64 (itM m (k + 1)), .int .i64 (itR ds wn m rd (k + 1))] 34)).belowB hb3 (by omega); have p1 := (P1.out.alloc (.cells #[.int .i64 (itM m (k + 1)), .int .i64 (itR ds wn m rd (k + 1))] 34)).belowB hb3 (by omega); have p2 := (P2.out.alloc (.cells #[.int .i64 (itM m (k + 1)), .int .i64 (itR ds wn m rd (k + 1))] 34)).belowB hb3 (by omega); have r2 := p1.cell 0 rfl; have r3 := p1.cell 1 rfl; have f2 := p1.frozen 0; have f3 := p1.frozen 1; have z3 := p2.lt; have B3 := Below.trans (B2.alloc B2.size _) (hb3.mono (by omega)); have G0 := Lib.hid p0; have G1 := Lib.hid p1; have G2 := Lib.hid p2; have GO := Lib.hid hown3; clear p0 p1 p2 hown3 hb3 hg3)
        go_roundw
        case rel =>
          refine ⟨k + 1, by omega, by go_num, ?_, ?_, ?_, ?_, ?_⟩
          · rw [HL.out]
            exact own_setCell (own_setCell GO.out (by simp) _) (by simp) _
          · refine Blk.far (Blk.far G0.out ?_ _) ?_ _ <;> simp
          · exact Blk.put2 G1.out _ _
          · refine Blk.far (Blk.far G2.out ?_ _) ?_ _ <;> simp
          · go_grown
        case measure => simp [intOf]; omega
      · have HL := Lib.hid (itL_non hp)
        have q2 := b1.cell 0 rfl
        have q3 := b1.cell 1 rfl
        have f2 := b1.frozen 0
        have f3 := b1.frozen 1
        have z1 := b1.lt
        have HO := Lib.hid O2
        clear b0 b1 b2 O2 hb2 hB
        go_wp2_with fail
        go_roundw
        case rel =>
          refine ⟨k + 1, by omega, by go_num, ?_, ?_, ?_, ?_, ?_⟩
          · rw [HL.out]
            exact (own_setCell (own_setCell HO.out (by simp) _) (by simp) _).alloc _
          · refine Blk.alloc (Blk.far (Blk.far P0.out ?_ _) ?_ _) _ <;> simp
          · exact Blk.alloc (Blk.put2 P1.out _ _) _
          · refine Blk.alloc (Blk.far (Blk.far P2.out ?_ _) ?_ _) _ <;> simp
          · go_grown
        case measure => simp [intOf]; omega
    · obtain rfl : k = N := by omega
      go_wp2_with fail
      try simp only [Exit.inBlock, Exit.then]
      refine bodyPost_ret (v := .tuple #[.agg #[.int .i64 (itM m k), .int .i64 (itR ds wn m rd k)], .slice Ax (itL ds wn m rd k).length cx, .int .i64 0]) ?_ rfl ?_
      · simp [results, Try.results43, go_sem, q4, q5]
      refine ⟨_, rfl, own_mono (base := w.heap.size + 3) ?_ (by omega), by go_grown⟩
      exact own_setCell (own_setCell HO.out (by simp) _) (by simp) _

set_option maxHeartbeats 8000000 in
theorem RunRack_s0 (v : Value) (ds : List Int) (wn m rd : Int) (N : Nat) (w : World) (hv : Sl w v ds) (hs : stB ds wn m rd = true) (hN : N ≤ 3000) :
    Calls Try.prog 58 #[.agg #[v, .int .i64 wn], .agg #[.int .i64 m, .int .i64 rd], .int .i64 N] w fun e w' => ∃ v', e = .returned (.tuple #[.agg #[.int .i64 (itM m N), .int .i64 (itR ds wn m rd N)], v', .int .i64 0]) ∧ w'.ownsRow w.heap.size 2 1 v' (itL ds wn m rd N).length (I64 (itL ds wn m rd N)) ∧ Below w.heap.size w w' := by
  have H1 := Lib.hid (fun w' (hb : Below w.heap.size w w') => l21State_any v ds wn m rd w' (hv.below hb))
  obtain ⟨hr, hst⟩ := stB_iff.1 hs
  have H2 := Lib.hid (fun k w' (hb : Below w.heap.size w w') => l21TickIt_any v ds wn m rd k w' (hv.below hb) hr)
  have HB := Lib.hid hs
  have HM := Lib.hid (itM_zero hst.1)
  have e1 : inB (N : Int) 0 3000 = true := inB_t (by omega) (by omega)
  clear hv hs hr hst
  go_enter Try.func58, Try.ntmps58
  obtain ⟨k0, k1, k2⟩ := bx3 w 27 34 34 #[v, .int .i64 wn] #[.int .i64 m, .int .i64 rd] #[.int .i64 0, .int .i64 0]
  have HK0 := Lib.hid k0
  have HK1 := Lib.hid k1
  have HK2 := Lib.hid k2
  clear k0 k1 k2
  go_wp2_with fail
  refine (H1.out _ (by go_grown)).mono ?_
  rintro e w1 ⟨rfl, hb1⟩
  rw [HB.out]
  have j2 := HK2.out.below hb1
  have J0 := Lib.hid (HK0.out.below hb1)
  have J1 := Lib.hid (HK1.out.below hb1)
  have J2 := Lib.hid j2
  have q4 := j2.cell 0 rfl
  have q5 := j2.cell 1 rfl
  have f4 := j2.frozen 0
  have f5 := j2.frozen 1
  have z2 := j2.lt
  have B1 : Below w.heap.size w w1 := Below.trans (by go_grown) (hb1.mono (by simp; omega))
  clear j2 hb1 HK0 HK1 HK2
  go_wp2_with (go_at_call 80; refine (l00In_any _ _ _ _).mono ?_; rintro e w' ⟨rfl, rfl⟩)
  go_loopw [9, 10] (fun x a wr => ∃ k : Nat, k ≤ N ∧ a = .int .i64 (k : Int) ∧ wr.ownsRow (w.heap.size + 3) 2 1 x (itL ds wn m rd k).length (I64 (itL ds wn m rd k)) ∧ Blk wr w.heap.size 27 #[v, .int .i64 wn] ∧ Blk wr (w.heap.size + 1) 34 #[.int .i64 (itM m k), .int .i64 (itR ds wn m rd k)] ∧ Blk wr (w.heap.size + 1 + 1) 34 #[.int .i64 0, .int .i64 0] ∧ Below w.heap.size w wr) (fun x a _ => N - (intOf a).toNat)
  case atStart => exact ⟨0, by omega, by go_num, World.ownsRow_lit w1 #[] 0 (by omega) (Nat.zero_le _) rfl, J0.out.alloc _, by rw [HM.out]; exact J1.out.alloc _, J2.out.alloc _, by go_grown⟩
  case round =>
    obtain ⟨k, hk, rfl, hown, b0, b1, b2, hB⟩ := hrel
    have q0 := b0.cell 0 rfl
    have q1 := b0.cell 1 rfl
    have q2 := b1.cell 0 rfl
    have q3 := b1.cell 1 rfl
    have q4 := b2.cell 0 rfl
    have q5 := b2.cell 1 rfl
    have f4 := b2.frozen 0
    have f5 := b2.frozen 1
    have z2 := b2.lt
    have P0 := Lib.hid b0
    have P1 := Lib.hid b1
    have P2 := Lib.hid b2
    obtain ⟨Ax, cx, rfl⟩ := own_form hown
    have HO := Lib.hid hown
    clear b0 b1 b2 hown
    by_cases hlt : k < N
    · have i1 : (0 : Int) < (N : Int) - (k : Int) := by omega
      have i2 : (k : Int) < (N : Int) := by omega
      go_wp2_with fail
      refine (H2.out k _ hB).mono ?_
      rintro e w2 ⟨rfl, hb2⟩
      have B2 := hB.trans (hb2.mono hB.size)
      have O2 := own_below HO.out hb2
      have b0 := P0.out.below hb2
      have b1 := P1.out.below hb2
      have b2 := P2.out.below hb2
      clear q0 q1 q2 q3 q4 q5 f4 f5 z2 P0 P1 P2 HO
      have hll : (itL ds wn m rd k).length ≤ 134217728 := by have := itL_length ds wn m rd k; omega
      have z2 := b2.lt
      have P0 := Lib.hid b0
      have P1 := Lib.hid b1
      have P2 := Lib.hid b2
      have hsz : w.heap.size + 3 ≤ w2.heap.size + 1 := by omega
      by_cases hp : 0 < itB ds wn m rd k
      · have HL := Lib.hid (itL_pos hp)
        have HO := Lib.hid (O2.alloc (.cells #[.int .i64 (itM m (k + 1)), .int .i64 (itR ds wn m rd (k + 1))] 34))
        have HE := Lib.hid (own_ne O2 (k := w2.heap.size) (Or.inr (Nat.le_refl _)))
        clear b0 b1 b2 O2 hb2 hB
        go_wp2_with (at_builtin; refine wpList_app1g rfl _ _ rfl (w.heap.size + 3) _ (itL ds wn m rd k) rfl HO.out _ _ rfl (by simp) hll (by simp; omega) ?_; intro v3 w3 hown3 hb3 hg3; have c0 : w3.cell? ⟨w2.heap.size, 0, none⟩ = _ := hg3.cell ((Blk.new w2 34 #[.int .i64 (itM m (k + 1)), .int .i64 (itR ds wn m rd (k + 1))]).cell 0 rfl) HE.out; have c1 : w3.cell? ⟨w2.heap.size, 1, none⟩ = _ := hg3.cell ((Blk.new w2 34 #[.int .i64 (itM m (k + 1)), .int .i64 (itR ds wn m rd (k + 1))]).cell 1 rfl) HE.out; have p0 := (P0.out.alloc (.cells #[.int .i64 (itM m (k + 1)), .int .i64 (itR ds wn m rd (k + 1))] 34)).belowB hb3 (by omega); have p1 := (P1.out.alloc (.cells #[.int .i64 (itM m (k + 1)), .int .i64 (itR ds wn m rd (k + 1))] 34)).belowB hb3 (by omega); have p2 := (P2.out.alloc (.cells #[.int .i64 (itM m (k + 1)), .int .i64 (itR ds wn m rd (k + 1))] 34)).belowB hb3 (by omega); have r2 := p1.cell 0 rfl; have r3 := p1.cell 1 rfl; have f2 := p1.frozen 0; have f3 := p1.frozen 1; have z3 := p2.lt; have B3 := Below.trans (B2.alloc B2.size _) (hb3.mono (by omega)); have G0 := Lib.hid p0; have G1 := Lib.hid p1; have G2 := Lib.hid p2; have GO := Lib.hid hown3; clear p0 p1 p2 hown3 hb3 hg3)
        go_roundw
        case rel =>
          refine ⟨k + 1, by omega, by go_num, ?_, ?_, ?_, ?_, ?_⟩
          · rw [HL.out]
            exact own_setCell (own_setCell GO.out (by simp) _) (by simp) _
          · refine Blk.far (Blk.far G0.out ?_ _) ?_ _ <;> simp
          · exact Blk.put2 G1.out _ _
          · refine Blk.far (Blk.far G2.out ?_ _) ?_ _ <;> simp
          · go_grown
        case measure => simp [intOf]; omega
      · have HL := Lib.hid (itL_non hp)
        have q2 := b1.cell 0 rfl
        have q3 := b1.cell 1 rfl
        have f2 := b1.frozen 0
        have f3 := b1.frozen 1
        have z1 := b1.lt
        have HO := Lib.hid O2
        clear b0 b1 b2 O2 hb2 hB
        go_wp2_with fail
        go_roundw
        case rel =>
          refine ⟨k + 1, by omega, by go_num, ?_, ?_, ?_, ?_, ?_⟩
          · rw [HL.out]
            exact (own_setCell (own_setCell HO.out (by simp) _) (by simp) _).alloc _
          · refine Blk.alloc (Blk.far (Blk.far P0.out ?_ _) ?_ _) _ <;> simp
          · exact Blk.alloc (Blk.put2 P1.out _ _) _
          · refine Blk.alloc (Blk.far (Blk.far P2.out ?_ _) ?_ _) _ <;> simp
          · go_grown
        case measure => simp [intOf]; omega
    · obtain rfl : k = N := by omega
      go_wp2_with fail
      try simp only [Exit.inBlock, Exit.then]
      refine bodyPost_ret (v := .tuple #[.agg #[.int .i64 (itM m k), .int .i64 (itR ds wn m rd k)], .slice Ax (itL ds wn m rd k).length cx, .int .i64 0]) ?_ rfl ?_
      · simp [results, Try.results58, go_sem, q4, q5]
      refine ⟨_, rfl, own_mono (base := w.heap.size + 3) ?_ (by omega), by go_grown⟩
      exact own_setCell (own_setCell HO.out (by simp) _) (by simp) _

set_option maxHeartbeats 2000000 in
theorem NextStrike_i1 (v : Value) (ds : List Int) (wn m rd : Int) (w : World) (hv : Sl w v ds) (hs : stB ds wn m rd = false) :
    Calls Try.prog 45 #[.agg #[v, .int .i64 wn], .agg #[.int .i64 m, .int .i64 rd]] w fun e w' => e = .returned (.tuple #[.int .i64 0, .int .i64 0, .int .i64 1]) ∧ Below w.heap.size w w' := by
  have H1 := Lib.hid (fun w' (hb : Below w.heap.size w w') => ValidRackState_i v ds wn m rd w' (hv.below hb))
  have HB := Lib.hid hs
  clear hv hs
  go_enter Try.func45, Try.ntmps45
  go_wp2_with fail
  refine (H1.out _ (by go_grown)).mono ?_
  rintro e w1 ⟨rfl, hb1⟩
  rw [HB.out]
  go_wp2
  go_ret3
  exact ⟨rfl, Below.trans (by go_grown) (hb1.mono (by simp; omega))⟩

set_option maxHeartbeats 2000000 in
theorem NextStrike_s1 (v : Value) (ds : List Int) (wn m rd : Int) (w : World) (hv : Sl w v ds) (hs : stB ds wn m rd = false) :
    Calls Try.prog 44 #[.agg #[v, .int .i64 wn], .agg #[.int .i64 m, .int .i64 rd]] w fun e w' => e = .returned (.tuple #[.int .i64 0, .int .i64 0, .int .i64 1]) ∧ Below w.heap.size w w' := by
  have H1 := Lib.hid (fun w' (hb : Below w.heap.size w w') => l21State_any v ds wn m rd w' (hv.below hb))
  have HB := Lib.hid hs
  clear hv hs
  go_enter Try.func44, Try.ntmps44
  go_wp2_with fail
  refine (H1.out _ (by go_grown)).mono ?_
  rintro e w1 ⟨rfl, hb1⟩
  rw [HB.out]
  go_wp2
  go_ret3
  exact ⟨rfl, Below.trans (by go_grown) (hb1.mono (by simp; omega))⟩

/-- Program and reference return the same. -/
theorem NextStrike_both (ds : List Int) (wn m rd : Int) : ∃ ra rb rc : Int,
    (∀ v w, Sl w v ds → Calls Try.prog 45 #[.agg #[v, .int .i64 wn], .agg #[.int .i64 m, .int .i64 rd]] w fun e w' => e = .returned (.tuple #[.int .i64 ra, .int .i64 rb, .int .i64 rc]) ∧ Below w.heap.size w w') ∧
    (∀ v w, Sl w v ds → Calls Try.prog 44 #[.agg #[v, .int .i64 wn], .agg #[.int .i64 m, .int .i64 rd]] w fun e w' => e = .returned (.tuple #[.int .i64 ra, .int .i64 rb, .int .i64 rc]) ∧ Below w.heap.size w w') := by
  cases hs : stB ds wn m rd with
  | true =>
    obtain ⟨K, h1, h2, h3⟩ := first_strike (m := m) (rd := rd) (stB_iff.1 hs).1
    exact ⟨_, _, _, fun v w hv => NextStrike_i v ds wn m rd w hv hs K h1 h2 h3, fun v w hv => NextStrike_s v ds wn m rd w hv hs K h1 h2 h3⟩
  | false => exact ⟨_, _, _, fun v w hv => NextStrike_i1 v ds wn m rd w hv hs, fun v w hv => NextStrike_s1 v ds wn m rd w hv hs⟩
theorem RunRack_both (ds : List Int) (wn m rd n : Int) : ∃ (ra rb : Int) (rl : List Int) (rc : Int), rl.length ≤ 3000 ∧
    (∀ v w, Sl w v ds → Calls Try.prog 43 #[.agg #[v, .int .i64 wn], .agg #[.int .i64 m, .int .i64 rd], .int .i64 n] w fun e w' => ∃ v', e = .returned (.tuple #[.agg #[.int .i64 ra, .int .i64 rb], v', .int .i64 rc]) ∧ w'.ownsRow w.heap.size 2 1 v' rl.length (I64 rl) ∧ Below w.heap.size w w') ∧
    (∀ v w, Sl w v ds → Calls Try.prog 58 #[.agg #[v, .int .i64 wn], .agg #[.int .i64 m, .int .i64 rd], .int .i64 n] w fun e w' => ∃ v', e = .returned (.tuple #[.agg #[.int .i64 ra, .int .i64 rb], v', .int .i64 rc]) ∧ w'.ownsRow w.heap.size 2 1 v' rl.length (I64 rl) ∧ Below w.heap.size w w') := by
  cases hs : stB ds wn m rd with
  | true =>
    cases hn : inB n 0 3000 with
    | true =>
      have h := inB_iff.1 hn
      obtain ⟨N, rfl⟩ := Int.eq_ofNat_of_zero_le h.1
      have hN : N ≤ 3000 := by omega
      exact ⟨_, _, itL ds wn m rd N, _, Nat.le_trans (itL_length ds wn m rd N) hN, fun v w hv => RunRack_i0 v ds wn m rd N w hv hs hN, fun v w hv => RunRack_s0 v ds wn m rd N w hv hs hN⟩
    | false => exact ⟨_, _, [], _, Nat.zero_le _, fun v w hv => RunRack_i2 v ds wn m rd n w hv hs hn, fun v w hv => RunRack_s2 v ds wn m rd n w hv hs hn⟩
  | false => exact ⟨_, _, [], _, Nat.zero_le _, fun v w hv => RunRack_i1 v ds wn m rd n w hv hs, fun v w hv => RunRack_s1 v ds wn m rd n w hv hs⟩

end Go.Proofs.Ytipakagmbppagaa
