/- Chimes: barrels whose bells are given other numbers; SwapBells in the program and in the reference. -/
import Derived.Test.YtgaohmbgjjhdbaaGreatDoorChU
import Derived.Test.YtgaohmbgjjhdbaaGreatDoorChW
namespace Go.Proofs.YtgaohmbgjjhdbaaGreatDoor
open Go.RowKit
attribute [local go_sem ↓] Go.wp_at_zero Go.wp_at_succ

def swpP (os : List Int) (p : Int × Int) : Int × Int := (p.1, ix os p.2.toNat)

set_option maxHeartbeats 2000000 in
theorem swap_cl (p : Int × Int) (B : Nat) (os : List Int) (A : Addr) (n c : Nat) (w : World) (h1 : w.cell? ⟨B, 0, none⟩ = some (.slice (some ⟨A.block, A.off, none⟩) n c)) (hb1 : B < w.heap.size)
    (q : Nat) (hq : p.2 = (q : Int)) (hqn : q < n) (hA : A.block < w.heap.size) (hc : w.cell? ⟨A.block, A.off + q, none⟩ = some (.int .i64 (ix os q))) :
    Calls Tryz.prog 24 #[.agg #[.int .i64 p.1, .int .i64 p.2], .pointer (some ⟨B, 0, none⟩)] w fun e w' => e = .returned (.agg #[.int .i64 (swpP os p).1, .int .i64 (swpP os p).2]) ∧ Below w.heap.size w w' := by
  obtain ⟨x, y⟩ := p
  obtain ⟨Ab, Ao, Av⟩ := A
  simp only at hq hA hc h1
  subst hq
  have e0 : swpP os (x, (q : Int)) = (x, ix os q) := by simp [swpP]
  rw [e0]
  simp only
  have i1 : (q : Int) < (n : Int) := by omega
  have n1 : ¬ B = w.heap.size := by omega
  have n2 : ¬ B = w.heap.size + 1 := by omega
  have n3 : ¬ Ab = w.heap.size := by omega
  have n4 : ¬ Ab = w.heap.size + 1 := by omega
  have l1 : B < w.heap.size + 1 := by omega
  have l2 : Ab < w.heap.size + 1 := by omega
  clear e0
  go_enter Tryz.func24, Tryz.ntmps24
  go_wp2_with fail
  obtain ⟨k0, k1⟩ := bx2 w 49 49 #[.int .i64 x, .int .i64 q] #[.int .i64 0, .int .i64 0]
  have f0 := k1.frozen 0
  have f1 := k1.frozen 1
  clear k0 k1
  go_region
  go_wp2
  try simp only [Exit.inBlock, Exit.then]
  refine bodyPost_ret (v := .agg #[.int .i64 x, .int .i64 (ix os q)]) ?_ rfl ?_
  · simp [results, Tryz.results24, go_sem]
  exact ⟨rfl, by go_grown⟩

set_option maxRecDepth 100000 in
set_option maxHeartbeats 8000000 in
theorem remade_swap (f : Int × Int → Int × Int) (c1 : Value) (v : Value) (ps : List (Int × Int)) (st bl : Int) (w : World) (hv : SlP w v ps) (hn : ps.length ≤ 100000)
    (hc : ∀ (k : Nat) (W : World), k < ps.length → Below w.heap.size w W → Calls Tryz.prog 24 #[.agg #[.int .i64 (pi ps k).1, .int .i64 (pi ps k).2], c1] W fun e w' => e = .returned (.agg #[.int .i64 (f (pi ps k)).1, .int .i64 (f (pi ps k)).2]) ∧ Below W.heap.size W w') :
    Calls Tryz.prog 23 #[.agg #[.int .i64 st, .int .i64 bl, v], .func (.func 24) #[] #[c1]] w fun e w' => ∃ v', e = .returned (.agg #[.int .i64 st, .int .i64 bl, v']) ∧ w'.ownsRow w.heap.size 49 2 v' (srtP (ps.map f) ps.length).length (P64 (srtP (ps.map f) ps.length)) ∧ Below w.heap.size w w' := by
  have HC := Lib.hid hc
  obtain ⟨A, c, rfl, hac, hac', HA⟩ := hv.open_
  clear hv hc
  go_enter Tryz.func23, Tryz.ntmps23
  obtain ⟨k0, k1⟩ := bx2 w 26 26 #[.int .i64 st, .int .i64 bl, .slice A ps.length c] #[.int .i64 0, .int .i64 0, .slice none 0 0]
  have HK0 := Lib.hid k0
  have HK1 := Lib.hid k1
  clear k0 k1
  go_wp2_with fail
  go_loopw [5, 11] (fun q i wr => ∃ j : Nat, j ≤ ps.length ∧ i = .int .i64 j ∧ wr.ownsRow (w.heap.size + 1 + 1) 49 2 q ((ps.take j).map f).length (P64 ((ps.take j).map f)) ∧ Blk wr w.heap.size 26 #[.int .i64 st, .int .i64 bl, .slice A ps.length c] ∧ Blk wr (w.heap.size + 1) 26 #[.int .i64 0, .int .i64 0, .slice none 0 0] ∧ Below w.heap.size w wr ∧ w.heap.size + 1 + 1 ≤ wr.heap.size) (fun _ i _ => ps.length - (intOf i).toNat)
  case atStart => exact ⟨0, Nat.zero_le _, rfl, World.ownsRow_nil _ _ _ _, HK0.out, HK1.out, by go_grown, by simp⟩
  case round =>
    obtain ⟨j, hj, rfl, ho, b0, b1, hB, hz⟩ := hrel
    obtain ⟨wo, rfl⟩ : ∃ x : World, x = wr := ⟨_, rfl⟩
    have hml : ((ps.take j).map f).length = j := by rw [List.length_map, List.length_take]; omega
    rw [hml] at ho
    obtain ⟨Aq, cq, rfl⟩ := own_form ho
    have HO := Lib.hid ho
    have P0 := Lib.hid b0
    have P1 := Lib.hid b1
    have HB := Lib.hid hB
    have HML := Lib.hid hml
    clear ho b0 b1 HK0 HK1
    by_cases hlt : j < ps.length
    · obtain ⟨ba, oa, rfl, hba, hca⟩ := HA.out j hlt
      have a0 : wo.cell? ⟨ba, oa + j * 2, none⟩ = _ := (hB.cell (p := ⟨ba, oa + j * 2, none⟩) hba).trans (hca j hlt).1
      have a1 : wo.cell? ⟨ba, oa + j * 2 + 1, none⟩ = _ := (hB.cell (p := ⟨ba, oa + (j * 2 + 1), none⟩) hba).trans (hca j hlt).2
      have zb : ba < wo.heap.size := Nat.lt_of_lt_of_le hba hB.size
      have i1 : (j : Int) < (ps.length : Int) := by omega
      have HC1 := Lib.hid (fun W hW => HC.out j W hlt hW)
      have HE : Hid ((ps.take (j + 1)).map f = (ps.take j).map f ++ [((f (pi ps j)).1, (f (pi ps j)).2)]) := by
        show _ = _
        rw [List.take_succ_eq_append_getElem hlt, List.map_append, pi_eq hlt]; rfl
      have HL : Hid (((ps.take j).map f).length ≤ 134217728) := by show _ ≤ _; omega
      clear hca HA hB hml
      go_wp2_with fail
      refine (HC1.out _ (HB.out.alloc (by omega) _)).mono ?_
      rintro e w1 ⟨rfl, hb1⟩
      have z1 : wo.heap.size + 1 ≤ w1.heap.size := by have := hb1.size; simpa using this
      have HO1 : Hid (w1.ownsRow (w.heap.size + 1 + 1) 49 2 (.slice Aq j cq) ((ps.take j).map f).length (P64 ((ps.take j).map f))) := by
        show World.ownsRow _ _ _ _ _ _ _
        rw [HML.out]
        exact own_below (HO.out.alloc _) hb1
      have HB1 : Hid (Below w.heap.size w w1) := (HB.out.alloc (by omega) _).trans (hb1.mono (by simp; omega))
      have Q0 := Lib.hid ((P0.out.alloc _).below hb1)
      have Q1 := Lib.hid ((P1.out.alloc _).below hb1)
      clear hb1 a0 a1
      go_wp2_with (at_builtin; refine wpList_appPin rfl _ _ rfl (w.heap.size + 1 + 1) _ ((ps.take j).map f) rfl HO1.out (f (pi ps j)).1 (f (pi ps j)).2 w1.heap.size rfl rfl HL.out (by omega) ?_; intro v6 w6 ho6 hb6 hg6; have HO6 := Lib.hid ho6; have HB6 := Lib.hid hb6; clear ho6 hb6 hg6 HO1)
      go_roundw
      case rel => exact ⟨j + 1, by omega, by go_num, by rw [HE.out]; exact HO6.out, Q0.out.belowB HB6.out (by omega), Q1.out.belowB HB6.out (by omega), HB1.out.trans (HB6.out.mono (by omega)), by have := HB6.out.size; omega⟩
      case measure => simp [intOf]; omega
    · obtain rfl : j = ps.length := by omega
      have HOM : Hid (wo.ownsRow (w.heap.size + 1 + 1) 49 2 (.slice Aq ps.length cq) (ps.map f).length (P64 (ps.map f))) := by
        show World.ownsRow _ _ _ _ _ _ _
        have h := HO.out
        rw [List.take_length] at h
        rw [List.length_map]; exact h
      have HN : Hid ((ps.map f).length ≤ 100000) := by show _ ≤ _; rw [List.length_map]; exact hn
      clear HO HA HML hml
      go_wp2_with fail
      refine (SortPins_any _ (ps.map f) (w.heap.size + 1 + 1) _ HOM.out HN.out).mono ?_
      rintro e w1 ⟨rfl, ho1, hb1⟩
      have j0 := P0.out.belowB hb1 (by omega)
      have j1 := P1.out.belowB hb1 (by omega)
      have q0 := j0.cell 0 rfl
      have q1 := j0.cell 1 rfl
      have q2 := j0.cell 2 rfl
      have t0 := j1.cell 0 rfl
      have t1 := j1.cell 1 rfl
      have t2 := j1.cell 2 rfl
      have r0 := j1.frozen 0
      have r1 := j1.frozen 1
      have r2 := j1.frozen 2
      have s2 := j0.frozen 2
      have y0 := j0.lt
      have y1 := j1.lt
      have HO2 := Lib.hid ho1
      have HB2 : Hid (Below w.heap.size w w1) := HB.out.trans (hb1.mono (by omega))
      clear ho1 hb1 j0 j1 hB
      go_wp2
      try simp only [Exit.inBlock, Exit.then]
      refine bodyPost_ret (v := .agg #[.int .i64 st, .int .i64 bl, .slice Aq ps.length cq]) ?_ rfl ?_
      · simp [results, Tryz.results23, go_sem, t0, t1, t2]
      refine ⟨_, rfl, own_mono (base := w.heap.size + 1 + 1) ?_ (by omega), by have hb2 := HB2.out; go_grown⟩
      repeat (refine own_setCell ?_ (by first | (simp; done) | (simp; omega) | omega) _)
      have h := HO2.out
      rw [List.length_map] at h
      rw [srtP_length]
      exact h
set_option maxRecDepth 100000 in
set_option maxHeartbeats 4000000 in
theorem SwapBells_i1 (v vo : Value) (ps : List (Int × Int)) (st bl : Int) (os : List Int) (w : World) (hv : SlP w v ps) (hvo : Sl w vo os) (hs : brB st bl ps = false) :
    Calls Tryz.prog 6 #[.agg #[.int .i64 st, .int .i64 bl, v], vo] w fun e w' => ∃ v', e = .returned (.tuple #[.agg #[.int .i64 0, .int .i64 0, v'], .int .i64 1]) ∧ w'.ownsRow w.heap.size 49 2 v' ([] : List (Int × Int)).length (P64 ([] : List (Int × Int))) ∧ Below w.heap.size w w' := by
  have H1 := Lib.hid (fun w' (hb : Below w.heap.size w w') => ValidBarrel_i _ ps st bl w' (hv.below hb))
  have HB := Lib.hid hs
  obtain ⟨Ao, co, rfl, hoc, hoc', HAO⟩ := hvo.open_
  clear hv hs hvo HAO
  go_enter Tryz.func6, Tryz.ntmps6
  obtain ⟨k0, k1, k2⟩ := bx3 w 26 27 26 #[.int .i64 st, .int .i64 bl, v] #[.slice Ao os.length co] #[.int .i64 0, .int .i64 0, .slice none 0 0]
  have HK0 := Lib.hid k0
  have HK2 := Lib.hid k2
  have HK1 := Lib.hid k1
  clear k0 k2 k1
  go_wp2_with fail
  refine (H1.out _ (by go_grown)).mono ?_
  rintro e w1 ⟨rfl, hb1⟩
  rw [HB.out]
  have J0 := Lib.hid (HK0.out.below hb1)
  have J2 := Lib.hid (HK2.out.below hb1)
  have J1 := Lib.hid (HK1.out.below hb1)
  have B1 : Below w.heap.size w w1 := Below.trans (by go_grown) (hb1.mono (by first | (simp; done) | (simp; omega) | omega))
  have zz : w.heap.size + 3 ≤ w1.heap.size := by have h := hb1.size; (first | (simpa using h) | (simp at h; omega))
  clear hb1 HK0 HK2 HK1
  have j0_0 := J0.out.cell 0 rfl
  have j0_1 := J0.out.cell 1 rfl
  have j0_2 := J0.out.cell 2 rfl
  have l_j0 := J0.out.lt
  have j2_0 := J2.out.cell 0 rfl
  have j2_1 := J2.out.cell 1 rfl
  have j2_2 := J2.out.cell 2 rfl
  have l_j2 := J2.out.lt
  have j1_0 := J1.out.cell 0 rfl
  have l_j1 := J1.out.lt
  have f20 := J2.out.frozen 0
  have f21 := J2.out.frozen 1
  have f22 := J2.out.frozen 2
  go_wp2
  try simp only [Exit.inBlock, Exit.then]
  refine bodyPost_ret (v := .tuple #[.agg #[.int .i64 0, .int .i64 0, .slice none 0 0], .int .i64 1]) ?_ rfl ?_
  · simp [results, Tryz.results6, go_sem, j2_0, j2_1, j2_2]
  exact ⟨_, rfl, World.ownsRow_nil _ _ _ _, by go_grown⟩
set_option maxRecDepth 100000 in
set_option maxHeartbeats 4000000 in
theorem SwapBells_i2 (v vo : Value) (ps : List (Int × Int)) (st bl : Int) (os : List Int) (w : World) (hv : SlP w v ps) (hvo : Sl w vo os) (hln : os.length ≤ 134217728) (hs : brB st bl ps = true) (hf : ordB os bl = false) :
    Calls Tryz.prog 6 #[.agg #[.int .i64 st, .int .i64 bl, v], vo] w fun e w' => ∃ v', e = .returned (.tuple #[.agg #[.int .i64 0, .int .i64 0, v'], .int .i64 2]) ∧ w'.ownsRow w.heap.size 49 2 v' ([] : List (Int × Int)).length (P64 ([] : List (Int × Int))) ∧ Below w.heap.size w w' := by
  have H1 := Lib.hid (fun w' (hb : Below w.heap.size w w') => ValidBarrel_i _ ps st bl w' (hv.below hb))
  have HB := Lib.hid hs
  obtain ⟨⟨s1, s2⟩, _, hl, hpins⟩ := brB_iff.1 hs
  have HF := Lib.hid (fun w' (hb : Below w.heap.size w w') => isOrder_any vo os bl w' (hvo.below hb) hln)
  have HE := Lib.hid hf
  obtain ⟨Ao, co, rfl, hoc, hoc', HAO⟩ := hvo.open_
  clear hv hs hvo HAO hf hpins hl
  go_enter Tryz.func6, Tryz.ntmps6
  obtain ⟨k0, k1, k2⟩ := bx3 w 26 27 26 #[.int .i64 st, .int .i64 bl, v] #[.slice Ao os.length co] #[.int .i64 0, .int .i64 0, .slice none 0 0]
  have HK0 := Lib.hid k0
  have HK2 := Lib.hid k2
  have HK1 := Lib.hid k1
  clear k0 k2 k1
  go_wp2_with fail
  refine (H1.out _ (by go_grown)).mono ?_
  rintro e w1 ⟨rfl, hb1⟩
  rw [HB.out]
  have J0 := Lib.hid (HK0.out.below hb1)
  have J2 := Lib.hid (HK2.out.below hb1)
  have J1 := Lib.hid (HK1.out.below hb1)
  have B1 : Below w.heap.size w w1 := Below.trans (by go_grown) (hb1.mono (by first | (simp; done) | (simp; omega) | omega))
  have zz : w.heap.size + 3 ≤ w1.heap.size := by have h := hb1.size; (first | (simpa using h) | (simp at h; omega))
  clear hb1 HK0 HK2 HK1
  have j0_0 := J0.out.cell 0 rfl
  have j0_1 := J0.out.cell 1 rfl
  have j0_2 := J0.out.cell 2 rfl
  have l_j0 := J0.out.lt
  have j2_0 := J2.out.cell 0 rfl
  have j2_1 := J2.out.cell 1 rfl
  have j2_2 := J2.out.cell 2 rfl
  have l_j2 := J2.out.lt
  have j1_0 := J1.out.cell 0 rfl
  have l_j1 := J1.out.lt
  have f20 := J2.out.frozen 0
  have f21 := J2.out.frozen 1
  have f22 := J2.out.frozen 2
  go_wp2_with fail
  refine (HF.out _ B1).mono ?_
  rintro e w3 ⟨rfl, hb3⟩
  rw [HE.out]
  clear j0_0 j0_1 j0_2 l_j0 j2_0 j2_1 j2_2 l_j2 j1_0 l_j1
  clear f20 f21 f22
  have B3 : Below w.heap.size w w3 := B1.trans (hb3.mono (by omega))
  have zz3 : w.heap.size + 3 ≤ w3.heap.size := by have := hb3.size; omega
  replace J0 := Lib.hid (J0.out.below hb3)
  replace J1 := Lib.hid (J1.out.below hb3)
  replace J2 := Lib.hid (J2.out.below hb3)
  clear hb3
  have j0_0 := J0.out.cell 0 rfl
  have j0_1 := J0.out.cell 1 rfl
  have j0_2 := J0.out.cell 2 rfl
  have l_j0 := J0.out.lt
  have j2_0 := J2.out.cell 0 rfl
  have j2_1 := J2.out.cell 1 rfl
  have j2_2 := J2.out.cell 2 rfl
  have l_j2 := J2.out.lt
  have j1_0 := J1.out.cell 0 rfl
  have l_j1 := J1.out.lt
  have f20 := J2.out.frozen 0
  have f21 := J2.out.frozen 1
  have f22 := J2.out.frozen 2
  go_wp2
  try simp only [Exit.inBlock, Exit.then]
  refine bodyPost_ret (v := .tuple #[.agg #[.int .i64 0, .int .i64 0, .slice none 0 0], .int .i64 2]) ?_ rfl ?_
  · simp [results, Tryz.results6, go_sem, j2_0, j2_1, j2_2]
  exact ⟨_, rfl, World.ownsRow_nil _ _ _ _, by go_grown⟩
set_option maxRecDepth 100000 in
set_option maxHeartbeats 4000000 in
theorem SwapBells_i0 (v vo : Value) (ps : List (Int × Int)) (st bl : Int) (os : List Int) (w : World) (hv : SlP w v ps) (hvo : Sl w vo os) (hln : os.length ≤ 134217728) (hs : brB st bl ps = true) (hf : ordB os bl = true) :
    Calls Tryz.prog 6 #[.agg #[.int .i64 st, .int .i64 bl, v], vo] w fun e w' => ∃ v', e = .returned (.tuple #[.agg #[.int .i64 st, .int .i64 bl, v'], .int .i64 0]) ∧ w'.ownsRow w.heap.size 49 2 v' (srtP (ps.map (swpP os)) ps.length).length (P64 (srtP (ps.map (swpP os)) ps.length)) ∧ Below w.heap.size w w' := by
  have H1 := Lib.hid (fun w' (hb : Below w.heap.size w w') => ValidBarrel_i _ ps st bl w' (hv.below hb))
  have HB := Lib.hid hs
  obtain ⟨⟨s1, s2⟩, _, hl, hpins⟩ := brB_iff.1 hs
  have HF := Lib.hid (fun w' (hb : Below w.heap.size w w') => isOrder_any vo os bl w' (hvo.below hb) hln)
  have HE := Lib.hid hf
  obtain ⟨Ao, co, rfl, hoc, hoc', HAO⟩ := hvo.open_
  have HPI := Lib.hid hpins
  have HV : Hid (∀ w', Below w.heap.size w w' → SlP w' v ps) := fun w' hb => hv.below hb
  have HL := Lib.hid (ordB_iff.1 hf).1
  clear hv hs hvo hf hpins
  go_enter Tryz.func6, Tryz.ntmps6
  obtain ⟨k0, k1, k2⟩ := bx3 w 26 27 26 #[.int .i64 st, .int .i64 bl, v] #[.slice Ao os.length co] #[.int .i64 0, .int .i64 0, .slice none 0 0]
  have HK0 := Lib.hid k0
  have HK2 := Lib.hid k2
  have HK1 := Lib.hid k1
  clear k0 k2 k1
  go_wp2_with fail
  refine (H1.out _ (by go_grown)).mono ?_
  rintro e w1 ⟨rfl, hb1⟩
  rw [HB.out]
  have J0 := Lib.hid (HK0.out.below hb1)
  have J2 := Lib.hid (HK2.out.below hb1)
  have J1 := Lib.hid (HK1.out.below hb1)
  have B1 : Below w.heap.size w w1 := Below.trans (by go_grown) (hb1.mono (by first | (simp; done) | (simp; omega) | omega))
  have zz : w.heap.size + 3 ≤ w1.heap.size := by have h := hb1.size; (first | (simpa using h) | (simp at h; omega))
  clear hb1 HK0 HK2 HK1
  have j0_0 := J0.out.cell 0 rfl
  have j0_1 := J0.out.cell 1 rfl
  have j0_2 := J0.out.cell 2 rfl
  have l_j0 := J0.out.lt
  have j2_0 := J2.out.cell 0 rfl
  have j2_1 := J2.out.cell 1 rfl
  have j2_2 := J2.out.cell 2 rfl
  have l_j2 := J2.out.lt
  have j1_0 := J1.out.cell 0 rfl
  have l_j1 := J1.out.lt
  have f20 := J2.out.frozen 0
  have f21 := J2.out.frozen 1
  have f22 := J2.out.frozen 2
  go_wp2_with fail
  refine (HF.out _ B1).mono ?_
  rintro e w3 ⟨rfl, hb3⟩
  rw [HE.out]
  clear j0_0 j0_1 j0_2 l_j0 j2_0 j2_1 j2_2 l_j2 j1_0 l_j1
  clear f20 f21 f22
  have B3 : Below w.heap.size w w3 := B1.trans (hb3.mono (by omega))
  have zz3 : w.heap.size + 3 ≤ w3.heap.size := by have := hb3.size; omega
  replace J0 := Lib.hid (J0.out.below hb3)
  replace J1 := Lib.hid (J1.out.below hb3)
  replace J2 := Lib.hid (J2.out.below hb3)
  clear hb3
  have j0_0 := J0.out.cell 0 rfl
  have j0_1 := J0.out.cell 1 rfl
  have j0_2 := J0.out.cell 2 rfl
  have l_j0 := J0.out.lt
  have j2_0 := J2.out.cell 0 rfl
  have j2_1 := J2.out.cell 1 rfl
  have j2_2 := J2.out.cell 2 rfl
  have l_j2 := J2.out.lt
  have j1_0 := J1.out.cell 0 rfl
  have l_j1 := J1.out.lt
  have f20 := J2.out.frozen 0
  have f21 := J2.out.frozen 1
  have f22 := J2.out.frozen 2
  have HCL : Hid (∀ (k : Nat) (W : World), k < ps.length → Below w3.heap.size w3 W → Calls Tryz.prog 24 #[.agg #[.int .i64 (pi ps k).1, .int .i64 (pi ps k).2], .pointer (some ⟨w.heap.size + 1, 0, none⟩)] W fun e w' => e = .returned (.agg #[.int .i64 (swpP os (pi ps k)).1, .int .i64 (swpP os (pi ps k)).2]) ∧ Below W.heap.size W w') := fun k W hk hW => by
    have hq := pinOk_at (HPI.out k hk)
    have hll := HL.out
    obtain ⟨q, hqq⟩ := Int.eq_ofNat_of_zero_le (show 0 ≤ (pi ps k).2 by omega)
    have hqn : q < os.length := by omega
    obtain ⟨bo, oo, rfl, hbo, hco⟩ := HAO.out q hqn
    have c1 := (J1.out.below hW).cell 0 rfl
    have z := hW.size
    have hWo : Below w.heap.size w W := B3.trans (hW.mono (by omega))
    exact swap_cl (pi ps k) (w.heap.size + 1) os ⟨bo, oo, none⟩ os.length co W c1 (by omega) q hqq hqn (Nat.lt_of_lt_of_le hbo hWo.size) ((hWo.cell (p := ⟨bo, oo + q, none⟩) hbo).trans (hco q hqn))
  go_wp2_with fail
  refine (remade_swap (swpP os) _ v ps st bl _ (HV.out _ B3) (by omega) HCL.out).mono ?_
  rintro e w2 ⟨u, rfl, ho, hb2⟩
  clear j0_0 j0_1 j0_2 l_j0 j2_0 j2_1 j2_2 l_j2 j1_0 l_j1
  clear f20 f21 f22
  obtain ⟨A, c, rfl⟩ := own_form ho
  have HO := Lib.hid ho
  have K2 := Lib.hid (J2.out.below hb2)
  have B2 : Below w.heap.size w w2 := B3.trans (hb2.mono (by omega))
  have zz2 : w.heap.size + 3 ≤ w2.heap.size := by have := hb2.size; omega
  clear ho hb2
  have k2_0 := K2.out.cell 0 rfl
  have k2_1 := K2.out.cell 1 rfl
  have k2_2 := K2.out.cell 2 rfl
  have l_k2 := K2.out.lt
  have f20 := K2.out.frozen 0
  have f21 := K2.out.frozen 1
  have f22 := K2.out.frozen 2
  go_wp2
  try simp only [Exit.inBlock, Exit.then]
  refine bodyPost_ret (v := .tuple #[.agg #[.int .i64 st, .int .i64 bl, .slice A (srtP (ps.map (swpP os)) ps.length).length c], .int .i64 0]) ?_ rfl ?_
  · simp [results, Tryz.results6, go_sem, k2_0, k2_1, k2_2]
  refine ⟨_, rfl, own_mono (base := w.heap.size + 3) ?_ (by omega), by go_grown⟩
  repeat (refine own_setCell ?_ (by first | (simp; done) | (simp; omega) | omega) _)
  exact own_mono HO.out (by omega)
set_option maxRecDepth 100000 in
set_option maxHeartbeats 4000000 in
theorem SwapBells_s1 (v vo : Value) (ps : List (Int × Int)) (st bl : Int) (w : World) (hv : SlP w v ps)  (hs : brB st bl ps = false) :
    Calls Tryz.prog 7 #[.agg #[.int .i64 st, .int .i64 bl, v], vo] w fun e w' => ∃ v', e = .returned (.tuple #[.agg #[.int .i64 0, .int .i64 0, v'], .int .i64 1]) ∧ w'.ownsRow w.heap.size 49 2 v' ([] : List (Int × Int)).length (P64 ([] : List (Int × Int))) ∧ Below w.heap.size w w' := by
  have H1 := Lib.hid (fun w' (hb : Below w.heap.size w w') => l22Ok_s _ ps st bl w' (hv.below hb))
  have HB := Lib.hid hs
  clear hv hs
  go_enter Tryz.func7, Tryz.ntmps7
  obtain ⟨k0, k2⟩ := bx2 w 26 26 #[.int .i64 st, .int .i64 bl, v] #[.int .i64 0, .int .i64 0, .slice none 0 0]
  have HK0 := Lib.hid k0
  have HK2 := Lib.hid k2
  clear k0 k2
  go_wp2_with fail
  refine (H1.out _ (by go_grown)).mono ?_
  rintro e w1 ⟨rfl, hb1⟩
  rw [HB.out]
  have J0 := Lib.hid (HK0.out.below hb1)
  have J2 := Lib.hid (HK2.out.below hb1)
  have B1 : Below w.heap.size w w1 := Below.trans (by go_grown) (hb1.mono (by first | (simp; done) | (simp; omega) | omega))
  have zz : w.heap.size + 2 ≤ w1.heap.size := by have h := hb1.size; (first | (simpa using h) | (simp at h; omega))
  clear hb1 HK0 HK2
  have j0_0 := J0.out.cell 0 rfl
  have j0_1 := J0.out.cell 1 rfl
  have j0_2 := J0.out.cell 2 rfl
  have l_j0 := J0.out.lt
  have j2_0 := J2.out.cell 0 rfl
  have j2_1 := J2.out.cell 1 rfl
  have j2_2 := J2.out.cell 2 rfl
  have l_j2 := J2.out.lt
  have f20 := J2.out.frozen 0
  have f21 := J2.out.frozen 1
  have f22 := J2.out.frozen 2
  go_wp2
  try simp only [Exit.inBlock, Exit.then]
  refine bodyPost_ret (v := .tuple #[.agg #[.int .i64 0, .int .i64 0, .slice none 0 0], .int .i64 1]) ?_ rfl ?_
  · simp [results, Tryz.results7, go_sem, j2_0, j2_1, j2_2]
  exact ⟨_, rfl, World.ownsRow_nil _ _ _ _, by go_grown⟩
set_option maxRecDepth 100000 in
set_option maxHeartbeats 4000000 in
theorem SwapBells_s2 (v vo : Value) (ps : List (Int × Int)) (st bl : Int) (os : List Int) (w : World) (hv : SlP w v ps) (hvo : Sl w vo os) (hs : brB st bl ps = true) (hf : ordB os bl = false) :
    Calls Tryz.prog 7 #[.agg #[.int .i64 st, .int .i64 bl, v], vo] w fun e w' => ∃ v', e = .returned (.tuple #[.agg #[.int .i64 0, .int .i64 0, v'], .int .i64 2]) ∧ w'.ownsRow w.heap.size 49 2 v' ([] : List (Int × Int)).length (P64 ([] : List (Int × Int))) ∧ Below w.heap.size w w' := by
  have H1 := Lib.hid (fun w' (hb : Below w.heap.size w w') => l22Ok_s _ ps st bl w' (hv.below hb))
  have HB := Lib.hid hs
  obtain ⟨⟨s1, s2⟩, _, hl, hpins⟩ := brB_iff.1 hs
  have HF := Lib.hid (fun w' (hb : Below w.heap.size w w') => l22Order_any vo os bl w' (hvo.below hb))
  have HE := Lib.hid hf
  clear hv hs hvo hf hpins hl
  go_enter Tryz.func7, Tryz.ntmps7
  obtain ⟨k0, k2⟩ := bx2 w 26 26 #[.int .i64 st, .int .i64 bl, v] #[.int .i64 0, .int .i64 0, .slice none 0 0]
  have HK0 := Lib.hid k0
  have HK2 := Lib.hid k2
  clear k0 k2
  go_wp2_with fail
  refine (H1.out _ (by go_grown)).mono ?_
  rintro e w1 ⟨rfl, hb1⟩
  rw [HB.out]
  have J0 := Lib.hid (HK0.out.below hb1)
  have J2 := Lib.hid (HK2.out.below hb1)
  have B1 : Below w.heap.size w w1 := Below.trans (by go_grown) (hb1.mono (by first | (simp; done) | (simp; omega) | omega))
  have zz : w.heap.size + 2 ≤ w1.heap.size := by have h := hb1.size; (first | (simpa using h) | (simp at h; omega))
  clear hb1 HK0 HK2
  have j0_0 := J0.out.cell 0 rfl
  have j0_1 := J0.out.cell 1 rfl
  have j0_2 := J0.out.cell 2 rfl
  have l_j0 := J0.out.lt
  have j2_0 := J2.out.cell 0 rfl
  have j2_1 := J2.out.cell 1 rfl
  have j2_2 := J2.out.cell 2 rfl
  have l_j2 := J2.out.lt
  have f20 := J2.out.frozen 0
  have f21 := J2.out.frozen 1
  have f22 := J2.out.frozen 2
  go_wp2_with fail
  refine (HF.out _ B1).mono ?_
  rintro e w' ⟨rfl, rfl⟩
  rw [HE.out]
  go_wp2
  try simp only [Exit.inBlock, Exit.then]
  refine bodyPost_ret (v := .tuple #[.agg #[.int .i64 0, .int .i64 0, .slice none 0 0], .int .i64 2]) ?_ rfl ?_
  · simp [results, Tryz.results7, go_sem, j2_0, j2_1, j2_2]
  exact ⟨_, rfl, World.ownsRow_nil _ _ _ _, by go_grown⟩
set_option maxRecDepth 100000 in
set_option maxHeartbeats 16000000 in
theorem SwapBells_s0 (v vo : Value) (ps : List (Int × Int)) (st bl : Int) (os : List Int) (w : World) (hv : SlP w v ps) (hvo : Sl w vo os) (hs : brB st bl ps = true) (hf : ordB os bl = true) :
    Calls Tryz.prog 7 #[.agg #[.int .i64 st, .int .i64 bl, v], vo] w fun e w' => ∃ v', e = .returned (.tuple #[.agg #[.int .i64 st, .int .i64 bl, v'], .int .i64 0]) ∧ w'.ownsRow w.heap.size 49 2 v' (srtP (ps.map (swpP os)) ps.length).length (P64 (srtP (ps.map (swpP os)) ps.length)) ∧ Below w.heap.size w w' := by
  have H1 := Lib.hid (fun w' (hb : Below w.heap.size w w') => l22Ok_s _ ps st bl w' (hv.below hb))
  have HB := Lib.hid hs
  obtain ⟨⟨s1, s2⟩, _, hl, hpins⟩ := brB_iff.1 hs
  have HF := Lib.hid (fun w' (hb : Below w.heap.size w w') => l22Order_any vo os bl w' (hvo.below hb))
  have HE := Lib.hid hf
  obtain ⟨Ao, co, rfl, hoc, hoc', HAO⟩ := hvo.open_
  have HPI := Lib.hid hpins
  have HV : Hid (∀ w', Below w.heap.size w w' → SlP w' v ps) := fun w' hb => hv.below hb
  have HL := Lib.hid (ordB_iff.1 hf).1
  obtain ⟨A, c, rfl, hac, hac', HA⟩ := hv.open_
  clear hv hs hvo hf hpins
  go_enter Tryz.func7, Tryz.ntmps7
  obtain ⟨k0, k2⟩ := bx2 w 26 26 #[.int .i64 st, .int .i64 bl, .slice A ps.length c] #[.int .i64 0, .int .i64 0, .slice none 0 0]
  have HK0 := Lib.hid k0
  have HK2 := Lib.hid k2
  clear k0 k2
  go_wp2_with fail
  refine (H1.out _ (by go_grown)).mono ?_
  rintro e w1 ⟨rfl, hb1⟩
  rw [HB.out]
  have J0 := Lib.hid (HK0.out.below hb1)
  have J2 := Lib.hid (HK2.out.below hb1)
  have B1 : Below w.heap.size w w1 := Below.trans (by go_grown) (hb1.mono (by first | (simp; done) | (simp; omega) | omega))
  have zz : w.heap.size + 2 ≤ w1.heap.size := by have h := hb1.size; (first | (simpa using h) | (simp at h; omega))
  clear hb1 HK0 HK2
  have j0_0 := J0.out.cell 0 rfl
  have j0_1 := J0.out.cell 1 rfl
  have j0_2 := J0.out.cell 2 rfl
  have l_j0 := J0.out.lt
  have j2_0 := J2.out.cell 0 rfl
  have j2_1 := J2.out.cell 1 rfl
  have j2_2 := J2.out.cell 2 rfl
  have l_j2 := J2.out.lt
  have f20 := J2.out.frozen 0
  have f21 := J2.out.frozen 1
  have f22 := J2.out.frozen 2
  go_wp2_with fail
  refine (HF.out _ B1).mono ?_
  rintro e w' ⟨rfl, rfl⟩
  rw [HE.out]
  clear j0_0 j0_1 j0_2 l_j0 j2_0 j2_1 j2_2 l_j2
  clear f20 f21 f22
  have HPP : Hid (∀ k, k < ps.length → 0 ≤ (pi ps k).2 ∧ (pi ps k).2 < (os.length : Int)) := fun k hk => by
    have hq := pinOk_at (HPI.out k hk)
    have hll := HL.out
    omega
  obtain ⟨W1, rfl⟩ : ∃ x : World, x = w1 := ⟨_, rfl⟩
  have HL0 := Lib.hid (own_litQ (base := W1.heap.size) W1 W1.heap.size rfl (Nat.le_refl _) 49)
  have HJ0 := Lib.hid (J0.out.alloc (.cells #[] 49))
  have HJ2 := Lib.hid (J2.out.alloc (.cells #[] 49))
  go_wp2_with fail
  go_loopw [6, 7] (fun q i wr => ∃ j : Nat, j ≤ ps.length ∧ i = .int .i64 j ∧ wr.ownsRow W1.heap.size 49 2 q ((ps.take j).map (swpP os)).length (P64 ((ps.take j).map (swpP os))) ∧ Blk wr w.heap.size 26 #[.int .i64 st, .int .i64 bl, .slice A ps.length c] ∧ Blk wr (w.heap.size + 1) 26 #[.int .i64 0, .int .i64 0, .slice none 0 0] ∧ Below w.heap.size w wr ∧ W1.heap.size ≤ wr.heap.size) (fun _ i _ => ps.length - (intOf i).toNat)
  case atStart => exact ⟨0, Nat.zero_le _, rfl, HL0.out, HJ0.out, HJ2.out, by go_grown, by simp⟩
  case round =>
    obtain ⟨j, hj, rfl, ho, b0, b1, hB, hz⟩ := hrel
    obtain ⟨wo, rfl⟩ : ∃ x : World, x = wr := ⟨_, rfl⟩
    have hml : ((ps.take j).map (swpP os)).length = j := by rw [List.length_map, List.length_take]; omega
    rw [hml] at ho
    obtain ⟨Aq, cq, rfl⟩ := own_form ho
    have q0 := b0.cell 0 rfl
    have q1 := b0.cell 1 rfl
    have q2 := b0.cell 2 rfl
    have z0 := b0.lt
    have HO := Lib.hid ho
    have P0 := Lib.hid b0
    have P1 := Lib.hid b1
    have HBB := Lib.hid hB
    have HML := Lib.hid hml
    clear ho b0 b1 HJ0 HJ2 HL0
    by_cases hlt : j < ps.length
    · obtain ⟨ba, oa, rfl, hba, hca⟩ := HA.out j hlt
      have a0 : wo.cell? ⟨ba, oa + j * 2, none⟩ = _ := (hB.cell (p := ⟨ba, oa + j * 2, none⟩) hba).trans (hca j hlt).1
      have a1 : wo.cell? ⟨ba, oa + j * 2 + 1, none⟩ = _ := (hB.cell (p := ⟨ba, oa + (j * 2 + 1), none⟩) hba).trans (hca j hlt).2
      have zb : ba < wo.heap.size := Nat.lt_of_lt_of_le hba hB.size
      have i1 : (j : Int) < (ps.length : Int) := by omega
      have i3 : (ps.length : Int) ≤ (c : Int) := by omega
      obtain ⟨p1, p2⟩ := HPP.out j hlt
      obtain ⟨y, hy⟩ := Int.eq_ofNat_of_zero_le p1
      rw [hy] at a1
      have hyn : y < os.length := by omega
      have i2 : (y : Int) < (os.length : Int) := by omega
      obtain ⟨bo, oo, rfl, hbo, hco⟩ := HAO.out y hyn
      have a2 : wo.cell? ⟨bo, oo + y, none⟩ = _ := (hB.cell (p := ⟨bo, oo + y, none⟩) hbo).trans (hco y hyn)
      have zo : bo < wo.heap.size := Nat.lt_of_lt_of_le hbo hB.size
      have HOL : Hid (wo.ownsRow W1.heap.size 49 2 (.slice Aq j cq) ((ps.take j).map (swpP os)).length (P64 ((ps.take j).map (swpP os)))) := by
        show World.ownsRow _ _ _ _ _ _ _
        rw [HML.out]
        exact HO.out
      have HEE : Hid ((ps.take (j + 1)).map (swpP os) = (ps.take j).map (swpP os) ++ [((pi ps j).1, ix os y)]) := by
        show _ = _
        rw [List.take_succ_eq_append_getElem hlt, List.map_append, ← pi_eq hlt]; simp [swpP, hy]
      have HLL : Hid (((ps.take j).map (swpP os)).length ≤ 1048576) := by show _ ≤ _; omega
      have HSr := Lib.hid (fun (w' : World) (hw : Below W1.heap.size wo w') => (⟨(P0.out.belowB hw (by omega)).cell 2 rfl, (World.cell?_of_block (a := ⟨ba, oa + j * 2, none⟩) (hw.block ba (by have := B1.size; omega))).trans a0, (World.cell?_of_block (a := ⟨ba, oa + j * 2 + 1, none⟩) (hw.block ba (by have := B1.size; omega))).trans a1, (World.cell?_of_block (a := ⟨bo, oo + y, none⟩) (hw.block bo (by have := B1.size; omega))).trans a2⟩ : w'.cell? ⟨w.heap.size, 2, none⟩ = some (.slice (some ⟨ba, oa, none⟩) ps.length c) ∧ w'.cell? ⟨ba, oa + j * 2, none⟩ = some (.int .i64 (pi ps j).1) ∧ w'.cell? ⟨ba, oa + j * 2 + 1, none⟩ = some (.int .i64 y) ∧ w'.cell? ⟨bo, oo + y, none⟩ = some (.int .i64 (ix os y))))
      clear hca hco HA hB hml HAO hy
      go_wp2_with fail
      go_region_held3 (fun w' => w'.cell? ⟨w.heap.size, 2, none⟩ = some (.slice (some ⟨ba, oa, none⟩) ps.length c) ∧ w'.cell? ⟨ba, oa + j * 2, none⟩ = some (.int .i64 (pi ps j).1) ∧ w'.cell? ⟨ba, oa + j * 2 + 1, none⟩ = some (.int .i64 y) ∧ w'.cell? ⟨bo, oo + y, none⟩ = some (.int .i64 (ix os y))) (first | assumption | (refine HSr.out _ ?_; go_grown; done) | go_keep)
        ((refine step_appPin rfl _ _ (by rfl) W1.heap.size _ ((ps.take j).map (swpP os)) (by rfl) (by first | exact (HOL.out.alloc _).drew | exact HOL.out.alloc _) _ _ wo.heap.size (by rfl) (heap_alloc_new wo _) j HML.out HLL.out (by simp; omega) ?_; intro b6 c6 w6 ho6 hb6 hg6; have HO6 := Lib.hid ho6; have HB6 : Hid (Below W1.heap.size wo w6) := (Below.trans (by go_grown) hb6); obtain ⟨s0, s1, s2, s3⟩ := HSr.out w6 HB6.out; clear ho6 hb6 hg6))
      all_goals
        go_wp2
        go_roundw
        case rel => exact ⟨j + 1, by omega, by go_num, by rw [HEE.out]; exact HO6.out, P0.out.belowB HB6.out (by omega), P1.out.belowB HB6.out (by omega), HBB.out.trans (HB6.out.mono (by omega)), by have := HB6.out.size; omega⟩
        case measure => simp [intOf]; omega
    · obtain rfl : j = ps.length := by omega
      have HSL : Hid (∀ w', Below wo.heap.size wo w' → SlP w' (.slice Aq ps.length cq) (ps.map (swpP os))) := fun w' hw => by
        have h := HO.out
        rw [List.take_length] at h
        have h2 : wo.ownsRow W1.heap.size 49 2 (.slice Aq ps.length cq) (ps.map (swpP os)).length (P64 (ps.map (swpP os))) := by rw [List.length_map]; exact h
        exact (SlP.of_own h2).below hw
      have HN : Hid ((ps.map (swpP os)).length ≤ 100000) := by show _ ≤ _; rw [List.length_map]; omega
      have HSr := Lib.hid (fun (w' : World) (hw : Below W1.heap.size wo w') => (⟨(P0.out.belowB hw (by omega)).cell 0 rfl, (P0.out.belowB hw (by omega)).cell 1 rfl⟩ : w'.cell? ⟨w.heap.size, 0, none⟩ = some (.int .i64 st) ∧ w'.cell? ⟨w.heap.size, 1, none⟩ = some (.int .i64 bl)))
      clear HA hB hml HAO
      go_wp2_with fail
      clear q0 q1 q2
      go_region_held3 (fun w' => w'.cell? ⟨w.heap.size, 0, none⟩ = some (.int .i64 st) ∧ w'.cell? ⟨w.heap.size, 1, none⟩ = some (.int .i64 bl)) (first | assumption | (refine HSr.out _ ?_; go_grown; done) | go_keep)
        ((go_at_call 27; refine (l22Sort_any _ (ps.map (swpP os)) _ (HSL.out _ (by go_grown)) HN.out).mono ?_; rintro e w2 ⟨u, rfl, ho2, hb2⟩; obtain ⟨A2, c2, rfl⟩ := own_form ho2; have HO2 := Lib.hid ho2; have HB2 : Hid (Below W1.heap.size wo w2) := (Below.trans (by go_grown) (hb2.mono (by first | (simp; done) | (simp; omega) | omega))); obtain ⟨s0, s1⟩ := HSr.out w2 HB2.out; have j2 := P1.out.belowB HB2.out (by omega); have t0 := j2.cell 0 rfl; have t1 := j2.cell 1 rfl; have t2 := j2.cell 2 rfl; have f0 := j2.frozen 0; have f1 := j2.frozen 1; have f2 := j2.frozen 2; have y2 := j2.lt; clear ho2 hb2 j2))
      all_goals
        go_wp2
        try simp only [Exit.inBlock, Exit.then]
        refine bodyPost_ret (v := .tuple #[.agg #[.int .i64 st, .int .i64 bl, .slice A2 (srtP (ps.map (swpP os)) ps.length).length c2], .int .i64 0]) ?_ rfl ?_
        · simp [results, Tryz.results7, go_sem, t0, t1, t2]
        have hb3 := HBB.out.trans (HB2.out.mono (by omega))
        refine ⟨_, rfl, own_mono (base := w.heap.size + 2) ?_ (by omega), by go_grown⟩
        repeat (refine own_setCell ?_ (by first | (simp; done) | (simp; omega) | omega) _)
        have h := HO2.out
        rw [List.length_map] at h
        exact own_mono h (by first | (have := hz; omega) | (simp; omega))

theorem SwapBells_both (st bl : Int) (ps : List (Int × Int)) (os : List Int) (hln : os.length ≤ 134217728) : ∃ (ra rb : Int) (rl : List (Int × Int)) (rc : Int), rl.length ≤ 1000 ∧
    (∀ v vo w, SlP w v ps → Sl w vo os → Calls Tryz.prog 6 #[.agg #[.int .i64 st, .int .i64 bl, v], vo] w fun e w' => ∃ v', e = .returned (.tuple #[.agg #[.int .i64 ra, .int .i64 rb, v'], .int .i64 rc]) ∧ w'.ownsRow w.heap.size 49 2 v' rl.length (P64 rl) ∧ Below w.heap.size w w') ∧
    (∀ v vo w, SlP w v ps → Sl w vo os → Calls Tryz.prog 7 #[.agg #[.int .i64 st, .int .i64 bl, v], vo] w fun e w' => ∃ v', e = .returned (.tuple #[.agg #[.int .i64 ra, .int .i64 rb, v'], .int .i64 rc]) ∧ w'.ownsRow w.heap.size 49 2 v' rl.length (P64 rl) ∧ Below w.heap.size w w') := by
  cases hs : brB st bl ps with
  | false => exact ⟨_, _, [], _, Nat.zero_le _, fun v vo w hv hvo => SwapBells_i1 v vo ps st bl os w hv hvo hs, fun v vo w hv _ => SwapBells_s1 v vo ps st bl w hv hs⟩
  | true =>
    cases hf : ordB os bl with
    | false => exact ⟨_, _, [], _, Nat.zero_le _, fun v vo w hv hvo => SwapBells_i2 v vo ps st bl os w hv hvo hln hs hf, fun v vo w hv hvo => SwapBells_s2 v vo ps st bl os w hv hvo hs hf⟩
    | true =>
      obtain ⟨_, _, h3, _⟩ := brB_iff.1 hs
      exact ⟨_, _, srtP (ps.map (swpP os)) ps.length, _, by rw [srtP_length]; omega, fun v vo w hv hvo => SwapBells_i0 v vo ps st bl os w hv hvo hln hs hf, fun v vo w hv hvo => SwapBells_s0 v vo ps st bl os w hv hvo hs hf⟩
end Go.Proofs.YtgaohmbgjjhdbaaGreatDoor
