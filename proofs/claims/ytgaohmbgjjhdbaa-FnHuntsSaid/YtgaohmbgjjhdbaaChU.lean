/- Chimes: barrels whose pins are changed and put in order again; TurnBarrel in the program and in the reference. -/
import Derived.Test.YtgaohmbgjjhdbaaChO
import Derived.BigRegion
namespace Go.Proofs.Ytgaohmbgjjhdbaa
open Go.RowKit
attribute [local go_sem ↓] Go.wp_at_zero Go.wp_at_succ

def trnP (st b : Int) (p : Int × Int) : Int × Int := ((p.1 + b) % st, p.2)

set_option maxHeartbeats 2000000 in
theorem turn_cl (p : Int × Int) (B1 B2 : Nat) (st b : Int) (w : World) (h1 : w.cell? ⟨B1, 0, none⟩ = some (.int .i64 b)) (h2 : w.cell? ⟨B2, 0, none⟩ = some (.int .i64 st)) (hb1 : B1 < w.heap.size) (hb2 : B2 < w.heap.size)
    (hp : 0 ≤ p.1) (hp2 : p.1 < st) (hb : 0 ≤ b) (hb3 : b < st) (hs : st ≤ 64) :
    Calls Try.prog 61 #[.agg #[.int .i64 p.1, .int .i64 p.2], .pointer (some ⟨B1, 0, none⟩), .pointer (some ⟨B2, 0, none⟩)] w fun e w' => e = .returned (.agg #[.int .i64 (trnP st b p).1, .int .i64 (trnP st b p).2]) ∧ Below w.heap.size w w' := by
  obtain ⟨x, y⟩ := p
  simp only at hp hp2
  have e1 : IntKind.i64.wrap (x + b) = x + b := IntWalk.i64_in _ (by omega)
  have e2 : (x + b).tmod st = (x + b) % st := Int.tmod_eq_emod_of_nonneg (by omega)
  have e3 : IntKind.i64.wrap ((x + b) % st) = (x + b) % st := by
    have h1 := Int.emod_nonneg (x + b) (show st ≠ 0 by omega)
    have h2 := Int.emod_lt_of_pos (x + b) (show 0 < st by omega)
    exact IntWalk.i64_in _ (by omega)
  have e4 : ¬ st = 0 := by omega
  have e5 : (st == 0) = false := by simpa using e4
  have n1 : ¬ B1 = w.heap.size := by omega
  have n2 : ¬ B1 = w.heap.size + 1 := by omega
  have n3 : ¬ B2 = w.heap.size := by omega
  have n4 : ¬ B2 = w.heap.size + 1 := by omega
  have l1 : B1 < w.heap.size + 1 := by omega
  have l2 : B2 < w.heap.size + 1 := by omega
  go_enter Try.func61, Try.ntmps61
  go_wp2_with fail
  obtain ⟨k0, k1⟩ := bx2 w 62 62 #[.int .i64 x, .int .i64 y] #[.int .i64 0, .int .i64 0]
  have f0 := k1.frozen 0
  have f1 := k1.frozen 1
  clear k0 k1
  go_region
  go_wp2
  try simp only [Exit.inBlock, Exit.then]
  refine bodyPost_ret (v := .agg #[.int .i64 ((x + b) % st), .int .i64 y]) ?_ rfl ?_
  · simp [results, Try.results61, go_sem]
  exact ⟨rfl, by go_grown⟩

set_option maxRecDepth 100000 in
set_option maxHeartbeats 8000000 in
theorem remade_turn (f : Int × Int → Int × Int) (c1 c2 : Value) (v : Value) (ps : List (Int × Int)) (st bl : Int) (w : World) (hv : SlP w v ps) (hn : ps.length ≤ 100000)
    (hc : ∀ (k : Nat) (W : World), k < ps.length → Below w.heap.size w W → Calls Try.prog 61 #[.agg #[.int .i64 (pi ps k).1, .int .i64 (pi ps k).2], c1, c2] W fun e w' => e = .returned (.agg #[.int .i64 (f (pi ps k)).1, .int .i64 (f (pi ps k)).2]) ∧ Below W.heap.size W w') :
    Calls Try.prog 60 #[.agg #[.int .i64 st, .int .i64 bl, v], .func (.func 61) #[] #[c1, c2]] w fun e w' => ∃ v', e = .returned (.agg #[.int .i64 st, .int .i64 bl, v']) ∧ w'.ownsRow w.heap.size 62 2 v' (srtP (ps.map f) ps.length).length (P64 (srtP (ps.map f) ps.length)) ∧ Below w.heap.size w w' := by
  have HC := Lib.hid hc
  obtain ⟨A, c, rfl, hac, hac', HA⟩ := hv.open_
  clear hv hc
  go_enter Try.func60, Try.ntmps60
  obtain ⟨k0, k1⟩ := bx2 w 33 33 #[.int .i64 st, .int .i64 bl, .slice A ps.length c] #[.int .i64 0, .int .i64 0, .slice none 0 0]
  have HK0 := Lib.hid k0
  have HK1 := Lib.hid k1
  clear k0 k1
  go_wp2_with fail
  go_loopw [5, 11] (fun q i wr => ∃ j : Nat, j ≤ ps.length ∧ i = .int .i64 j ∧ wr.ownsRow (w.heap.size + 1 + 1) 62 2 q ((ps.take j).map f).length (P64 ((ps.take j).map f)) ∧ Blk wr w.heap.size 33 #[.int .i64 st, .int .i64 bl, .slice A ps.length c] ∧ Blk wr (w.heap.size + 1) 33 #[.int .i64 0, .int .i64 0, .slice none 0 0] ∧ Below w.heap.size w wr ∧ w.heap.size + 1 + 1 ≤ wr.heap.size) (fun _ i _ => ps.length - (intOf i).toNat)
  case atStart => exact ⟨0, Nat.zero_le _, rfl, World.ownsRow_nil _ _ _ _, HK0.out, HK1.out, by go_grown, by simp⟩
  case round =>
    obtain ⟨j, hj, rfl, ho, b0, b1, hB, hz⟩ := hrel
    obtain ⟨wo, rfl⟩ : ∃ x : World, x = wr := ⟨_, rfl⟩
    have hml : ((ps.take j).map f).length = j := by rw [List.length_map, List.length_take]; omega
    rw [hml] at ho
    obtain ⟨Aq, cq, rfl⟩ := own_form ho
    have HO := Lib.hid ho
    have P0 := Lib.hid b0
    have P1 := Lib.hid b1
    have HB := Lib.hid hB
    have HML := Lib.hid hml
    clear ho b0 b1 HK0 HK1
    by_cases hlt : j < ps.length
    · obtain ⟨ba, oa, rfl, hba, hca⟩ := HA.out j hlt
      have a0 : wo.cell? ⟨ba, oa + j * 2, none⟩ = _ := (hB.cell (p := ⟨ba, oa + j * 2, none⟩) hba).trans (hca j hlt).1
      have a1 : wo.cell? ⟨ba, oa + j * 2 + 1, none⟩ = _ := (hB.cell (p := ⟨ba, oa + (j * 2 + 1), none⟩) hba).trans (hca j hlt).2
      have zb : ba < wo.heap.size := Nat.lt_of_lt_of_le hba hB.size
      have i1 : (j : Int) < (ps.length : Int) := by omega
      have HC1 := Lib.hid (fun W hW => HC.out j W hlt hW)
      have HE : Hid ((ps.take (j + 1)).map f = (ps.take j).map f ++ [((f (pi ps j)).1, (f (pi ps j)).2)]) := by
        show _ = _
        rw [List.take_succ_eq_append_getElem hlt, List.map_append, pi_eq hlt]; rfl
      have HL : Hid (((ps.take j).map f).length ≤ 134217728) := by show _ ≤ _; omega
      clear hca HA hB hml
      go_wp2_with fail
      refine (HC1.out _ (HB.out.alloc (by omega) _)).mono ?_
      rintro e w1 ⟨rfl, hb1⟩
      have z1 : wo.heap.size + 1 ≤ w1.heap.size := by have := hb1.size; simpa using this
      have HO1 : Hid (w1.ownsRow (w.heap.size + 1 + 1) 62 2 (.slice Aq j cq) ((ps.take j).map f).length (P64 ((ps.take j).map f))) := by
        show World.ownsRow _ _ _ _ _ _ _
        rw [HML.out]
        exact own_below (HO.out.alloc _) hb1
      have HB1 : Hid (Below w.heap.size w w1) := (HB.out.alloc (by omega) _).trans (hb1.mono (by simp; omega))
      have Q0 := Lib.hid ((P0.out.alloc _).below hb1)
      have Q1 := Lib.hid ((P1.out.alloc _).below hb1)
      clear hb1 a0 a1
      go_wp2_with (at_builtin; refine wpList_appPin rfl _ _ rfl (w.heap.size + 1 + 1) _ ((ps.take j).map f) rfl HO1.out (f (pi ps j)).1 (f (pi ps j)).2 w1.heap.size rfl rfl HL.out (by omega) ?_; intro v6 w6 ho6 hb6 hg6; have HO6 := Lib.hid ho6; have HB6 := Lib.hid hb6; clear ho6 hb6 hg6 HO1)
      go_roundw
      case rel => exact ⟨j + 1, by omega, by go_num, by rw [HE.out]; exact HO6.out, Q0.out.belowB HB6.out (by omega), Q1.out.belowB HB6.out (by omega), HB1.out.trans (HB6.out.mono (by omega)), by have := HB6.out.size; omega⟩
      case measure => simp [intOf]; omega
    · obtain rfl : j = ps.length := by omega
      have HOM : Hid (wo.ownsRow (w.heap.size + 1 + 1) 62 2 (.slice Aq ps.length cq) (ps.map f).length (P64 (ps.map f))) := by
        show World.ownsRow _ _ _ _ _ _ _
        have h := HO.out
        rw [List.take_length] at h
        rw [List.length_map]; exact h
      have HN : Hid ((ps.map f).length ≤ 100000) := by show _ ≤ _; rw [List.length_map]; exact hn
      clear HO HA HML hml
      go_wp2_with fail
      refine (SortPins_any _ (ps.map f) (w.heap.size + 1 + 1) _ HOM.out HN.out).mono ?_
      rintro e w1 ⟨rfl, ho1, hb1⟩
      have j0 := P0.out.belowB hb1 (by omega)
      have j1 := P1.out.belowB hb1 (by omega)
      have q0 := j0.cell 0 rfl
      have q1 := j0.cell 1 rfl
      have q2 := j0.cell 2 rfl
      have t0 := j1.cell 0 rfl
      have t1 := j1.cell 1 rfl
      have t2 := j1.cell 2 rfl
      have r0 := j1.frozen 0
      have r1 := j1.frozen 1
      have r2 := j1.frozen 2
      have s2 := j0.frozen 2
      have y0 := j0.lt
      have y1 := j1.lt
      have HO2 := Lib.hid ho1
      have HB2 : Hid (Below w.heap.size w w1) := HB.out.trans (hb1.mono (by omega))
      clear ho1 hb1 j0 j1 hB
      go_wp2
      try simp only [Exit.inBlock, Exit.then]
      refine bodyPost_ret (v := .agg #[.int .i64 st, .int .i64 bl, .slice Aq ps.length cq]) ?_ rfl ?_
      · simp [results, Try.results60, go_sem, t0, t1, t2]
      refine ⟨_, rfl, own_mono (base := w.heap.size + 1 + 1) ?_ (by omega), by have hb2 := HB2.out; go_grown⟩
      repeat (refine own_setCell ?_ (by first | (simp; done) | (simp; omega) | omega) _)
      have h := HO2.out
      rw [List.length_map] at h
      rw [srtP_length]
      exact h

section
variable {w : World} {ops : Array Oper} {o : Oper} {a : Act} {K : Act → World → Prop} {Q : Exit → Act → World → Prop} {E : Prop}
/-- 'ps = append(ps, Pin{m, n})' on pins that the call owns, in a region that draws its order. -/
theorem step_appPin (hgd : o.guard = none) (s x : Operand) (ho : o.op = .call { callee := .builtin .append, args := #[s, x], argTypes := #[31, 31] })
    (base : Nat) (v : Value) (ps : List (Int × Int)) (hs : a.eval s = v) (hown : w.ownsRow base 62 2 v ps.length (P64 ps)) (m n : Int)
    (g : Nat) (hx : a.eval x = .slice (some ⟨g, 0, none⟩) 1 1) (hnew : w.heap[g]? = some (.cells #[.int .i64 m, .int .i64 n] 62 (0, 0))) (L : Nat) (hL : ps.length = L) (hn : ps.length ≤ 1048576) (hbase : base ≤ w.heap.size)
    (h : ∀ b c w', w'.ownsRow base 62 2 (.slice (some ⟨b, 0, none⟩) (L + 1) c) (ps ++ [(m, n)]).length (P64 (ps ++ [(m, n)])) → Below base w w' → w.grownBy w' v.ownBlock → K (a.put o.dst (.slice (some ⟨b, 0, none⟩) (L + 1) c)) w') :
    if Region.wanted o (yielded ops a.tmps) = true then Oper.wp Try.prog o a w K Q else E := by
  subst hL
  obtain ⟨i0, hi, hz0, hz1, hz2⟩ := info_parts pin_info
  refine step_append_lies w hgd s x _ ho base 62 i0 _ 2 16 Try.underlying31 hi hz0 hz1 hz2 rfl (by decide) v ps.length (P64 ps) hs hown ⟨g, 0, none⟩ 1 1 [.int .i64 m, .int .i64 n] hx rfl
    (World.news_of_block (cs := #[.int .i64 m, .int .i64 n]) (t := 62) (fr := (0, 0)) hnew) (by intro u hu; simp at hu; rcases hu with rfl | rfl <;> rfl) (by decide) (by simp only [maxLen]; omega) (by omega) hbase w.heap.size rfl ?_
  intro b c w' h1 h2 _ _
  exact h b c w' (by rw [P64_append]; simpa [P64] using h1) (below_of_grown h2 hbase fun k hk => (hown.lt k hk).1) h2
end

set_option maxRecDepth 100000 in
set_option maxHeartbeats 16000000 in
theorem l22Turn_any (v : Value) (ps : List (Int × Int)) (st bl b : Int) (w : World) (hv : SlP w v ps) (hn : ps.length ≤ 100000) (hp : ∀ k, k < ps.length → 0 ≤ (pi ps k).1 ∧ (pi ps k).1 < st) (hb : 0 ≤ b) (hb3 : b < st) (hs : st ≤ 64) :
    Calls Try.prog 57 #[.agg #[.int .i64 st, .int .i64 bl, v], .int .i64 b] w fun e w' => ∃ v', e = .returned (.agg #[.int .i64 st, .int .i64 bl, v']) ∧ w'.ownsRow w.heap.size 62 2 v' (srtP (ps.map (trnP st b)) ps.length).length (P64 (srtP (ps.map (trnP st b)) ps.length)) ∧ Below w.heap.size w w' := by
  have HP := Lib.hid hp
  obtain ⟨A, c, rfl, hac, hac', HA⟩ := hv.open_
  clear hv hp
  go_enter Try.func57, Try.ntmps57
  obtain ⟨k0, k1⟩ := bx2 w 33 33 #[.int .i64 st, .int .i64 bl, .slice A ps.length c] #[.int .i64 0, .int .i64 0, .slice none 0 0]
  have HK0 := Lib.hid (k0.alloc (.cells #[] 62))
  have HK1 := Lib.hid (k1.alloc (.cells #[] 62))
  have HL0 := Lib.hid (own_litQ (base := w.heap.size + 1 + 1) ((w.alloc (.cells #[.int .i64 st, .int .i64 bl, .slice A ps.length c] 33)).alloc (.cells #[.int .i64 0, .int .i64 0, .slice none 0 0] 33)) (w.heap.size + 1 + 1) (by simp) (Nat.le_refl _) 62)
  clear k0 k1
  go_wp2_with fail
  go_loopw [5, 6] (fun q i wr => ∃ j : Nat, j ≤ ps.length ∧ i = .int .i64 j ∧ wr.ownsRow (w.heap.size + 1 + 1) 62 2 q ((ps.take j).map (trnP st b)).length (P64 ((ps.take j).map (trnP st b))) ∧ Blk wr w.heap.size 33 #[.int .i64 st, .int .i64 bl, .slice A ps.length c] ∧ Blk wr (w.heap.size + 1) 33 #[.int .i64 0, .int .i64 0, .slice none 0 0] ∧ Below w.heap.size w wr ∧ w.heap.size + 1 + 1 ≤ wr.heap.size) (fun _ i _ => ps.length - (intOf i).toNat)
  case atStart => exact ⟨0, Nat.zero_le _, rfl, HL0.out, HK0.out, HK1.out, by go_grown, by simp⟩
  case round =>
    obtain ⟨j, hj, rfl, ho, b0, b1, hB, hz⟩ := hrel
    obtain ⟨wo, rfl⟩ : ∃ x : World, x = wr := ⟨_, rfl⟩
    have hml : ((ps.take j).map (trnP st b)).length = j := by rw [List.length_map, List.length_take]; omega
    rw [hml] at ho
    obtain ⟨Aq, cq, rfl⟩ := own_form ho
    have q0 := b0.cell 0 rfl
    have q2 := b0.cell 2 rfl
    have z0 := b0.lt
    have HO := Lib.hid ho
    have P0 := Lib.hid b0
    have P1 := Lib.hid b1
    have HB := Lib.hid hB
    have HML := Lib.hid hml
    clear ho b0 b1 HK0 HK1 HL0
    by_cases hlt : j < ps.length
    · obtain ⟨ba, oa, rfl, hba, hca⟩ := HA.out j hlt
      have a0 : wo.cell? ⟨ba, oa + j * 2, none⟩ = _ := (hB.cell (p := ⟨ba, oa + j * 2, none⟩) hba).trans (hca j hlt).1
      have a1 : wo.cell? ⟨ba, oa + j * 2 + 1, none⟩ = _ := (hB.cell (p := ⟨ba, oa + (j * 2 + 1), none⟩) hba).trans (hca j hlt).2
      have zb : ba < wo.heap.size := Nat.lt_of_lt_of_le hba hB.size
      have i1 : (j : Int) < (ps.length : Int) := by omega
      have i3 : (ps.length : Int) ≤ (c : Int) := by omega
      obtain ⟨p1, p2⟩ := HP.out j hlt
      have e1 : IntKind.i64.wrap ((pi ps j).1 + b) = (pi ps j).1 + b := IntWalk.i64_in _ (by omega)
      have e2 : ((pi ps j).1 + b).tmod st = ((pi ps j).1 + b) % st := Int.tmod_eq_emod_of_nonneg (by omega)
      have e3 : IntKind.i64.wrap (((pi ps j).1 + b) % st) = ((pi ps j).1 + b) % st := by
        have h1 := Int.emod_nonneg ((pi ps j).1 + b) (show st ≠ 0 by omega)
        have h2 := Int.emod_lt_of_pos ((pi ps j).1 + b) (show 0 < st by omega)
        exact IntWalk.i64_in _ (by omega)
      have e4 : ¬ st = 0 := by omega
      have HOL : Hid (wo.ownsRow (w.heap.size + 1 + 1) 62 2 (.slice Aq j cq) ((ps.take j).map (trnP st b)).length (P64 ((ps.take j).map (trnP st b)))) := by
        show World.ownsRow _ _ _ _ _ _ _
        rw [HML.out]
        exact HO.out
      have HE : Hid ((ps.take (j + 1)).map (trnP st b) = (ps.take j).map (trnP st b) ++ [(((pi ps j).1 + b) % st, (pi ps j).2)]) := by
        show _ = _
        rw [List.take_succ_eq_append_getElem hlt, List.map_append, pi_eq hlt]; rfl
      have HL : Hid (((ps.take j).map (trnP st b)).length ≤ 1048576) := by show _ ≤ _; omega
      have HSr := Lib.hid (fun (w' : World) (hw : Below (w.heap.size + 1 + 1) wo w') => (⟨(P0.out.belowB hw (by omega)).cell 0 rfl, (P0.out.belowB hw (by omega)).cell 2 rfl, (World.cell?_of_block (a := ⟨ba, oa + j * 2, none⟩) (hw.block ba (by omega))).trans a0, (World.cell?_of_block (a := ⟨ba, oa + j * 2 + 1, none⟩) (hw.block ba (by omega))).trans a1⟩ : w'.cell? ⟨w.heap.size, 0, none⟩ = some (.int .i64 st) ∧ w'.cell? ⟨w.heap.size, 2, none⟩ = some (.slice (some ⟨ba, oa, none⟩) ps.length c) ∧ w'.cell? ⟨ba, oa + j * 2, none⟩ = some (.int .i64 (pi ps j).1) ∧ w'.cell? ⟨ba, oa + j * 2 + 1, none⟩ = some (.int .i64 (pi ps j).2)))
      clear hca HA hB hml
      go_wp2_with fail
      go_region_held3 (fun w' => w'.cell? ⟨w.heap.size, 0, none⟩ = some (.int .i64 st) ∧ w'.cell? ⟨w.heap.size, 2, none⟩ = some (.slice (some ⟨ba, oa, none⟩) ps.length c) ∧ w'.cell? ⟨ba, oa + j * 2, none⟩ = some (.int .i64 (pi ps j).1) ∧ w'.cell? ⟨ba, oa + j * 2 + 1, none⟩ = some (.int .i64 (pi ps j).2)) (first | assumption | (refine HSr.out _ ?_; go_grown; done) | go_keep)
        ((refine step_appPin rfl _ _ (by rfl) (w.heap.size + 1 + 1) _ ((ps.take j).map (trnP st b)) (by rfl) (by first | exact (HOL.out.alloc _).drew | exact HOL.out.alloc _) _ _ wo.heap.size (by rfl) (heap_alloc_new wo _) j HML.out HL.out (by simp; omega) ?_; intro b6 c6 w6 ho6 hb6 hg6; have HO6 := Lib.hid ho6; have HB6 : Hid (Below (w.heap.size + 1 + 1) wo w6) := (Below.trans (by go_grown) hb6); obtain ⟨s0, s1, s2, s3⟩ := HSr.out w6 HB6.out; clear ho6 hb6 hg6))
      all_goals
        go_wp2
        go_roundw
        case rel => exact ⟨j + 1, by omega, by go_num, by rw [HE.out]; exact HO6.out, P0.out.belowB HB6.out (by omega), P1.out.belowB HB6.out (by omega), HB.out.trans (HB6.out.mono (by omega)), by have := HB6.out.size; omega⟩
        case measure => simp [intOf]; omega
    · obtain rfl : j = ps.length := by omega
      have HSL : Hid (∀ w', Below wo.heap.size wo w' → SlP w' (.slice Aq ps.length cq) (ps.map (trnP st b))) := fun w' hw => by
        have h := HO.out
        rw [List.take_length] at h
        have h2 : wo.ownsRow (w.heap.size + 1 + 1) 62 2 (.slice Aq ps.length cq) (ps.map (trnP st b)).length (P64 (ps.map (trnP st b))) := by rw [List.length_map]; exact h
        exact (SlP.of_own h2).below hw
      have HN : Hid ((ps.map (trnP st b)).length ≤ 100000) := by show _ ≤ _; rw [List.length_map]; exact hn
      have HSr := Lib.hid (fun (w' : World) (hw : Below (w.heap.size + 1 + 1) wo w') => (⟨(P0.out.belowB hw (by omega)).cell 0 rfl, (P0.out.belowB hw (by omega)).cell 1 rfl⟩ : w'.cell? ⟨w.heap.size, 0, none⟩ = some (.int .i64 st) ∧ w'.cell? ⟨w.heap.size, 1, none⟩ = some (.int .i64 bl)))
      clear HA hB hml
      go_wp2_with fail
      clear q0 q2
      go_region_held3 (fun w' => w'.cell? ⟨w.heap.size, 0, none⟩ = some (.int .i64 st) ∧ w'.cell? ⟨w.heap.size, 1, none⟩ = some (.int .i64 bl)) (first | assumption | (refine HSr.out _ ?_; go_grown; done) | go_keep)
        ((go_at_call 80; refine (l22Sort_any _ (ps.map (trnP st b)) _ (HSL.out _ (by go_grown)) HN.out).mono ?_; rintro e w2 ⟨u, rfl, ho2, hb2⟩; obtain ⟨A2, c2, rfl⟩ := own_form ho2; have HO2 := Lib.hid ho2; have HB2 : Hid (Below (w.heap.size + 1 + 1) wo w2) := (Below.trans (by go_grown) (hb2.mono (by first | (simp; done) | (simp; omega) | omega))); obtain ⟨s0, s1⟩ := HSr.out w2 HB2.out; have j2 := P1.out.belowB HB2.out (by omega); have t0 := j2.cell 0 rfl; have t1 := j2.cell 1 rfl; have t2 := j2.cell 2 rfl; have f0 := j2.frozen 0; have f1 := j2.frozen 1; have f2 := j2.frozen 2; have y2 := j2.lt; clear ho2 hb2 j2))
      all_goals
        go_wp2
        try simp only [Exit.inBlock, Exit.then]
        refine bodyPost_ret (v := .agg #[.int .i64 st, .int .i64 bl, .slice A2 (srtP (ps.map (trnP st b)) ps.length).length c2]) ?_ rfl ?_
        · simp [results, Try.results57, go_sem, t0, t1, t2]
        have hb3 := HB.out.trans (HB2.out.mono (by omega))
        refine ⟨_, rfl, own_mono (base := w.heap.size + 2) ?_ (by omega), by go_grown⟩
        repeat (refine own_setCell ?_ (by first | (simp; done) | (simp; omega) | omega) _)
        have h := HO2.out
        rw [List.length_map] at h
        exact own_mono h (by first | exact hz | (simp; exact hz) | (simp; omega))

theorem pinOk_at {st bl : Int} {ps : List (Int × Int)} {k : Nat} (h : PinOk st bl ps k) : 0 ≤ (pi ps k).1 ∧ (pi ps k).1 ≤ st - 1 ∧ 0 ≤ (pi ps k).2 ∧ (pi ps k).2 ≤ bl - 1 := by
  have h1 := inB_iff.1 h.1
  have h2 := inB_iff.1 h.2.1
  omega
set_option maxRecDepth 100000 in
set_option maxHeartbeats 4000000 in
theorem TurnBarrel_i1 (v : Value) (ps : List (Int × Int)) (st bl b : Int) (w : World) (hv : SlP w v ps) (hs : brB st bl ps = false) :
    Calls Try.prog 17 #[.agg #[.int .i64 st, .int .i64 bl, v], .int .i64 b] w fun e w' => ∃ v', e = .returned (.tuple #[.agg #[.int .i64 0, .int .i64 0, v'], .int .i64 1]) ∧ w'.ownsRow w.heap.size 62 2 v' ([] : List (Int × Int)).length (P64 ([] : List (Int × Int))) ∧ Below w.heap.size w w' := by
  have H1 := Lib.hid (fun w' (hb : Below w.heap.size w w') => ValidBarrel_i _ ps st bl w' (hv.below hb))
  have HB := Lib.hid hs
  clear hv hs
  go_enter Try.func17, Try.ntmps17
  obtain ⟨k0, k1, k2⟩ := bx3 w 33 2 33 #[.int .i64 st, .int .i64 bl, v] #[.int .i64 b] #[.int .i64 0, .int .i64 0, .slice none 0 0]
  have HK0 := Lib.hid k0
  have HK2 := Lib.hid k2
  have HK1 := Lib.hid k1
  clear k0 k2 k1
  go_wp2_with fail
  refine (H1.out _ (by go_grown)).mono ?_
  rintro e w1 ⟨rfl, hb1⟩
  rw [HB.out]
  have J0 := Lib.hid (HK0.out.below hb1)
  have J2 := Lib.hid (HK2.out.below hb1)
  have J1 := Lib.hid (HK1.out.below hb1)
  have B1 : Below w.heap.size w w1 := Below.trans (by go_grown) (hb1.mono (by first | (simp; done) | (simp; omega) | omega))
  have zz : w.heap.size + 3 ≤ w1.heap.size := by have h := hb1.size; (first | (simpa using h) | (simp at h; omega))
  clear hb1 HK0 HK2 HK1
  have j0_0 := J0.out.cell 0 rfl
  have j0_1 := J0.out.cell 1 rfl
  have j0_2 := J0.out.cell 2 rfl
  have l_j0 := J0.out.lt
  have j2_0 := J2.out.cell 0 rfl
  have j2_1 := J2.out.cell 1 rfl
  have j2_2 := J2.out.cell 2 rfl
  have l_j2 := J2.out.lt
  have j1_0 := J1.out.cell 0 rfl
  have l_j1 := J1.out.lt
  have f20 := J2.out.frozen 0
  have f21 := J2.out.frozen 1
  have f22 := J2.out.frozen 2
  go_wp2
  try simp only [Exit.inBlock, Exit.then]
  refine bodyPost_ret (v := .tuple #[.agg #[.int .i64 0, .int .i64 0, .slice none 0 0], .int .i64 1]) ?_ rfl ?_
  · simp [results, Try.results17, go_sem, j2_0, j2_1, j2_2]
  exact ⟨_, rfl, World.ownsRow_nil _ _ _ _, by go_grown⟩
set_option maxRecDepth 100000 in
set_option maxHeartbeats 4000000 in
theorem TurnBarrel_i2 (v : Value) (ps : List (Int × Int)) (st bl b : Int) (w : World) (hv : SlP w v ps) (hs : brB st bl ps = true) (hf : inB b 0 (st - 1) = false) :
    Calls Try.prog 17 #[.agg #[.int .i64 st, .int .i64 bl, v], .int .i64 b] w fun e w' => ∃ v', e = .returned (.tuple #[.agg #[.int .i64 0, .int .i64 0, v'], .int .i64 2]) ∧ w'.ownsRow w.heap.size 62 2 v' ([] : List (Int × Int)).length (P64 ([] : List (Int × Int))) ∧ Below w.heap.size w w' := by
  have H1 := Lib.hid (fun w' (hb : Below w.heap.size w w') => ValidBarrel_i _ ps st bl w' (hv.below hb))
  have HB := Lib.hid hs
  obtain ⟨⟨s1, s2⟩, _, hl, hpins⟩ := brB_iff.1 hs
  have e1 : IntKind.i64.wrap (st - 1) = st - 1 := IntWalk.i64_in _ (by omega)
  have HF := Lib.hid (fun w => within_r b 0 (st - 1) _ w hf)
  clear hv hs hf hpins hl
  go_enter Try.func17, Try.ntmps17
  obtain ⟨k0, k1, k2⟩ := bx3 w 33 2 33 #[.int .i64 st, .int .i64 bl, v] #[.int .i64 b] #[.int .i64 0, .int .i64 0, .slice none 0 0]
  have HK0 := Lib.hid k0
  have HK2 := Lib.hid k2
  have HK1 := Lib.hid k1
  clear k0 k2 k1
  go_wp2_with fail
  refine (H1.out _ (by go_grown)).mono ?_
  rintro e w1 ⟨rfl, hb1⟩
  rw [HB.out]
  have J0 := Lib.hid (HK0.out.below hb1)
  have J2 := Lib.hid (HK2.out.below hb1)
  have J1 := Lib.hid (HK1.out.below hb1)
  have B1 : Below w.heap.size w w1 := Below.trans (by go_grown) (hb1.mono (by first | (simp; done) | (simp; omega) | omega))
  have zz : w.heap.size + 3 ≤ w1.heap.size := by have h := hb1.size; (first | (simpa using h) | (simp at h; omega))
  clear hb1 HK0 HK2 HK1
  have j0_0 := J0.out.cell 0 rfl
  have j0_1 := J0.out.cell 1 rfl
  have j0_2 := J0.out.cell 2 rfl
  have l_j0 := J0.out.lt
  have j2_0 := J2.out.cell 0 rfl
  have j2_1 := J2.out.cell 1 rfl
  have j2_2 := J2.out.cell 2 rfl
  have l_j2 := J2.out.lt
  have j1_0 := J1.out.cell 0 rfl
  have l_j1 := J1.out.lt
  have f20 := J2.out.frozen 0
  have f21 := J2.out.frozen 1
  have f22 := J2.out.frozen 2
  go_wp2_with fail
  refine (HF.out _).mono ?_
  rintro e w' ⟨rfl, rfl⟩
  go_wp2
  try simp only [Exit.inBlock, Exit.then]
  refine bodyPost_ret (v := .tuple #[.agg #[.int .i64 0, .int .i64 0, .slice none 0 0], .int .i64 2]) ?_ rfl ?_
  · simp [results, Try.results17, go_sem, j2_0, j2_1, j2_2]
  exact ⟨_, rfl, World.ownsRow_nil _ _ _ _, by go_grown⟩
set_option maxRecDepth 100000 in
set_option maxHeartbeats 4000000 in
theorem TurnBarrel_i0 (v : Value) (ps : List (Int × Int)) (st bl b : Int) (w : World) (hv : SlP w v ps) (hs : brB st bl ps = true) (hf : inB b 0 (st - 1) = true) :
    Calls Try.prog 17 #[.agg #[.int .i64 st, .int .i64 bl, v], .int .i64 b] w fun e w' => ∃ v', e = .returned (.tuple #[.agg #[.int .i64 st, .int .i64 bl, v'], .int .i64 0]) ∧ w'.ownsRow w.heap.size 62 2 v' (srtP (ps.map (trnP st b)) ps.length).length (P64 (srtP (ps.map (trnP st b)) ps.length)) ∧ Below w.heap.size w w' := by
  have H1 := Lib.hid (fun w' (hb : Below w.heap.size w w') => ValidBarrel_i _ ps st bl w' (hv.below hb))
  have HB := Lib.hid hs
  obtain ⟨⟨s1, s2⟩, _, hl, hpins⟩ := brB_iff.1 hs
  have e1 : IntKind.i64.wrap (st - 1) = st - 1 := IntWalk.i64_in _ (by omega)
  have HF := Lib.hid (fun w => within_r b 0 (st - 1) _ w hf)
  have HPI := Lib.hid hpins
  obtain ⟨f1, f2⟩ := inB_iff.1 hf
  have HV : Hid (∀ w', Below w.heap.size w w' → SlP w' v ps) := fun w' hb => hv.below hb
  clear hv hs hf hpins
  go_enter Try.func17, Try.ntmps17
  obtain ⟨k0, k1, k2⟩ := bx3 w 33 2 33 #[.int .i64 st, .int .i64 bl, v] #[.int .i64 b] #[.int .i64 0, .int .i64 0, .slice none 0 0]
  have HK0 := Lib.hid k0
  have HK2 := Lib.hid k2
  have HK1 := Lib.hid k1
  clear k0 k2 k1
  go_wp2_with fail
  refine (H1.out _ (by go_grown)).mono ?_
  rintro e w1 ⟨rfl, hb1⟩
  rw [HB.out]
  have J0 := Lib.hid (HK0.out.below hb1)
  have J2 := Lib.hid (HK2.out.below hb1)
  have J1 := Lib.hid (HK1.out.below hb1)
  have B1 : Below w.heap.size w w1 := Below.trans (by go_grown) (hb1.mono (by first | (simp; done) | (simp; omega) | omega))
  have zz : w.heap.size + 3 ≤ w1.heap.size := by have h := hb1.size; (first | (simpa using h) | (simp at h; omega))
  clear hb1 HK0 HK2 HK1
  have j0_0 := J0.out.cell 0 rfl
  have j0_1 := J0.out.cell 1 rfl
  have j0_2 := J0.out.cell 2 rfl
  have l_j0 := J0.out.lt
  have j2_0 := J2.out.cell 0 rfl
  have j2_1 := J2.out.cell 1 rfl
  have j2_2 := J2.out.cell 2 rfl
  have l_j2 := J2.out.lt
  have j1_0 := J1.out.cell 0 rfl
  have l_j1 := J1.out.lt
  have f20 := J2.out.frozen 0
  have f21 := J2.out.frozen 1
  have f22 := J2.out.frozen 2
  go_wp2_with fail
  refine (HF.out _).mono ?_
  rintro e w' ⟨rfl, rfl⟩
  have HCL : Hid (∀ (k : Nat) (W : World), k < ps.length → Below w1.heap.size w1 W → Calls Try.prog 61 #[.agg #[.int .i64 (pi ps k).1, .int .i64 (pi ps k).2], .pointer (some ⟨w.heap.size + 1, 0, none⟩), .pointer (some ⟨w.heap.size, 0, none⟩)] W fun e w' => e = .returned (.agg #[.int .i64 (trnP st b (pi ps k)).1, .int .i64 (trnP st b (pi ps k)).2]) ∧ Below W.heap.size W w') := fun k W hk hW => by
    have hp := HPI.out k hk
    have hq := pinOk_at hp
    have c1 := (J1.out.below hW).cell 0 rfl
    have c2 := (J0.out.below hW).cell 0 rfl
    have z := hW.size
    exact turn_cl (pi ps k) (w.heap.size + 1) w.heap.size st b W c1 c2 (by omega) (by omega) (by omega) (by omega) (by omega) (by omega) (by omega)
  go_wp2_with fail
  refine (remade_turn (trnP st b) _ _ v ps st bl _ (HV.out _ B1) (by omega) HCL.out).mono ?_
  rintro e w2 ⟨u, rfl, ho, hb2⟩
  clear j0_0 j0_1 j0_2 l_j0 j2_0 j2_1 j2_2 l_j2 j1_0 l_j1
  clear f20 f21 f22
  obtain ⟨A, c, rfl⟩ := own_form ho
  have HO := Lib.hid ho
  have K2 := Lib.hid (J2.out.below hb2)
  have B2 : Below w.heap.size w w2 := B1.trans (hb2.mono (by omega))
  have zz2 : w.heap.size + 3 ≤ w2.heap.size := by have := hb2.size; omega
  clear ho hb2
  have k2_0 := K2.out.cell 0 rfl
  have k2_1 := K2.out.cell 1 rfl
  have k2_2 := K2.out.cell 2 rfl
  have l_k2 := K2.out.lt
  have f20 := K2.out.frozen 0
  have f21 := K2.out.frozen 1
  have f22 := K2.out.frozen 2
  go_wp2
  try simp only [Exit.inBlock, Exit.then]
  refine bodyPost_ret (v := .tuple #[.agg #[.int .i64 st, .int .i64 bl, .slice A (srtP (ps.map (trnP st b)) ps.length).length c], .int .i64 0]) ?_ rfl ?_
  · simp [results, Try.results17, go_sem, k2_0, k2_1, k2_2]
  refine ⟨_, rfl, own_mono (base := w.heap.size + 3) ?_ (by omega), by go_grown⟩
  repeat (refine own_setCell ?_ (by first | (simp; done) | (simp; omega) | omega) _)
  exact own_mono HO.out (by omega)
set_option maxRecDepth 100000 in
set_option maxHeartbeats 4000000 in
theorem TurnBarrel_s1 (v : Value) (ps : List (Int × Int)) (st bl b : Int) (w : World) (hv : SlP w v ps) (hs : brB st bl ps = false) :
    Calls Try.prog 15 #[.agg #[.int .i64 st, .int .i64 bl, v], .int .i64 b] w fun e w' => ∃ v', e = .returned (.tuple #[.agg #[.int .i64 0, .int .i64 0, v'], .int .i64 1]) ∧ w'.ownsRow w.heap.size 62 2 v' ([] : List (Int × Int)).length (P64 ([] : List (Int × Int))) ∧ Below w.heap.size w w' := by
  have H1 := Lib.hid (fun w' (hb : Below w.heap.size w w') => l22Ok_s _ ps st bl w' (hv.below hb))
  have HB := Lib.hid hs
  clear hv hs
  go_enter Try.func15, Try.ntmps15
  obtain ⟨k0, k2⟩ := bx2 w 33 33 #[.int .i64 st, .int .i64 bl, v] #[.int .i64 0, .int .i64 0, .slice none 0 0]
  have HK0 := Lib.hid k0
  have HK2 := Lib.hid k2
  clear k0 k2
  go_wp2_with fail
  refine (H1.out _ (by go_grown)).mono ?_
  rintro e w1 ⟨rfl, hb1⟩
  rw [HB.out]
  have J0 := Lib.hid (HK0.out.below hb1)
  have J2 := Lib.hid (HK2.out.below hb1)
  have B1 : Below w.heap.size w w1 := Below.trans (by go_grown) (hb1.mono (by first | (simp; done) | (simp; omega) | omega))
  have zz : w.heap.size + 2 ≤ w1.heap.size := by have h := hb1.size; (first | (simpa using h) | (simp at h; omega))
  clear hb1 HK0 HK2
  have j0_0 := J0.out.cell 0 rfl
  have j0_1 := J0.out.cell 1 rfl
  have j0_2 := J0.out.cell 2 rfl
  have l_j0 := J0.out.lt
  have j2_0 := J2.out.cell 0 rfl
  have j2_1 := J2.out.cell 1 rfl
  have j2_2 := J2.out.cell 2 rfl
  have l_j2 := J2.out.lt
  have f20 := J2.out.frozen 0
  have f21 := J2.out.frozen 1
  have f22 := J2.out.frozen 2
  go_wp2
  try simp only [Exit.inBlock, Exit.then]
  refine bodyPost_ret (v := .tuple #[.agg #[.int .i64 0, .int .i64 0, .slice none 0 0], .int .i64 1]) ?_ rfl ?_
  · simp [results, Try.results15, go_sem, j2_0, j2_1, j2_2]
  exact ⟨_, rfl, World.ownsRow_nil _ _ _ _, by go_grown⟩
set_option maxRecDepth 100000 in
set_option maxHeartbeats 4000000 in
theorem TurnBarrel_s2 (v : Value) (ps : List (Int × Int)) (st bl b : Int) (w : World) (hv : SlP w v ps) (hs : brB st bl ps = true) (hf : inB b 0 (st - 1) = false) :
    Calls Try.prog 15 #[.agg #[.int .i64 st, .int .i64 bl, v], .int .i64 b] w fun e w' => ∃ v', e = .returned (.tuple #[.agg #[.int .i64 0, .int .i64 0, v'], .int .i64 2]) ∧ w'.ownsRow w.heap.size 62 2 v' ([] : List (Int × Int)).length (P64 ([] : List (Int × Int))) ∧ Below w.heap.size w w' := by
  have H1 := Lib.hid (fun w' (hb : Below w.heap.size w w') => l22Ok_s _ ps st bl w' (hv.below hb))
  have HB := Lib.hid hs
  obtain ⟨⟨s1, s2⟩, _, hl, hpins⟩ := brB_iff.1 hs
  have e1 : IntKind.i64.wrap (st - 1) = st - 1 := IntWalk.i64_in _ (by omega)
  have HF := Lib.hid (fun w => l00In_r b 0 (st - 1) _ w hf)
  clear hv hs hf hpins hl
  go_enter Try.func15, Try.ntmps15
  obtain ⟨k0, k2⟩ := bx2 w 33 33 #[.int .i64 st, .int .i64 bl, v] #[.int .i64 0, .int .i64 0, .slice none 0 0]
  have HK0 := Lib.hid k0
  have HK2 := Lib.hid k2
  clear k0 k2
  go_wp2_with fail
  refine (H1.out _ (by go_grown)).mono ?_
  rintro e w1 ⟨rfl, hb1⟩
  rw [HB.out]
  have J0 := Lib.hid (HK0.out.below hb1)
  have J2 := Lib.hid (HK2.out.below hb1)
  have B1 : Below w.heap.size w w1 := Below.trans (by go_grown) (hb1.mono (by first | (simp; done) | (simp; omega) | omega))
  have zz : w.heap.size + 2 ≤ w1.heap.size := by have h := hb1.size; (first | (simpa using h) | (simp at h; omega))
  clear hb1 HK0 HK2
  have j0_0 := J0.out.cell 0 rfl
  have j0_1 := J0.out.cell 1 rfl
  have j0_2 := J0.out.cell 2 rfl
  have l_j0 := J0.out.lt
  have j2_0 := J2.out.cell 0 rfl
  have j2_1 := J2.out.cell 1 rfl
  have j2_2 := J2.out.cell 2 rfl
  have l_j2 := J2.out.lt
  have f20 := J2.out.frozen 0
  have f21 := J2.out.frozen 1
  have f22 := J2.out.frozen 2
  go_wp2_with fail
  refine (HF.out _).mono ?_
  rintro e w' ⟨rfl, rfl⟩
  go_wp2
  try simp only [Exit.inBlock, Exit.then]
  refine bodyPost_ret (v := .tuple #[.agg #[.int .i64 0, .int .i64 0, .slice none 0 0], .int .i64 2]) ?_ rfl ?_
  · simp [results, Try.results15, go_sem, j2_0, j2_1, j2_2]
  exact ⟨_, rfl, World.ownsRow_nil _ _ _ _, by go_grown⟩
set_option maxRecDepth 100000 in
set_option maxHeartbeats 4000000 in
theorem TurnBarrel_s0 (v : Value) (ps : List (Int × Int)) (st bl b : Int) (w : World) (hv : SlP w v ps) (hs : brB st bl ps = true) (hf : inB b 0 (st - 1) = true) :
    Calls Try.prog 15 #[.agg #[.int .i64 st, .int .i64 bl, v], .int .i64 b] w fun e w' => ∃ v', e = .returned (.tuple #[.agg #[.int .i64 st, .int .i64 bl, v'], .int .i64 0]) ∧ w'.ownsRow w.heap.size 62 2 v' (srtP (ps.map (trnP st b)) ps.length).length (P64 (srtP (ps.map (trnP st b)) ps.length)) ∧ Below w.heap.size w w' := by
  have H1 := Lib.hid (fun w' (hb : Below w.heap.size w w') => l22Ok_s _ ps st bl w' (hv.below hb))
  have HB := Lib.hid hs
  obtain ⟨⟨s1, s2⟩, _, hl, hpins⟩ := brB_iff.1 hs
  have e1 : IntKind.i64.wrap (st - 1) = st - 1 := IntWalk.i64_in _ (by omega)
  have HF := Lib.hid (fun w => l00In_r b 0 (st - 1) _ w hf)
  have HPI := Lib.hid hpins
  obtain ⟨f1, f2⟩ := inB_iff.1 hf
  have HV : Hid (∀ w', Below w.heap.size w w' → SlP w' v ps) := fun w' hb => hv.below hb
  clear hv hs hf hpins
  go_enter Try.func15, Try.ntmps15
  obtain ⟨k0, k2⟩ := bx2 w 33 33 #[.int .i64 st, .int .i64 bl, v] #[.int .i64 0, .int .i64 0, .slice none 0 0]
  have HK0 := Lib.hid k0
  have HK2 := Lib.hid k2
  clear k0 k2
  go_wp2_with fail
  refine (H1.out _ (by go_grown)).mono ?_
  rintro e w1 ⟨rfl, hb1⟩
  rw [HB.out]
  have J0 := Lib.hid (HK0.out.below hb1)
  have J2 := Lib.hid (HK2.out.below hb1)
  have B1 : Below w.heap.size w w1 := Below.trans (by go_grown) (hb1.mono (by first | (simp; done) | (simp; omega) | omega))
  have zz : w.heap.size + 2 ≤ w1.heap.size := by have h := hb1.size; (first | (simpa using h) | (simp at h; omega))
  clear hb1 HK0 HK2
  have j0_0 := J0.out.cell 0 rfl
  have j0_1 := J0.out.cell 1 rfl
  have j0_2 := J0.out.cell 2 rfl
  have l_j0 := J0.out.lt
  have j2_0 := J2.out.cell 0 rfl
  have j2_1 := J2.out.cell 1 rfl
  have j2_2 := J2.out.cell 2 rfl
  have l_j2 := J2.out.lt
  have f20 := J2.out.frozen 0
  have f21 := J2.out.frozen 1
  have f22 := J2.out.frozen 2
  go_wp2_with fail
  refine (HF.out _).mono ?_
  rintro e w' ⟨rfl, rfl⟩
  have HPP : Hid (∀ k, k < ps.length → 0 ≤ (pi ps k).1 ∧ (pi ps k).1 < st) := fun k hk => by
    have hq := pinOk_at (HPI.out k hk)
    omega
  go_wp2_with fail
  refine (l22Turn_any v ps st bl b _ (HV.out _ B1) (by omega) HPP.out (by omega) (by omega) (by omega)).mono ?_
  rintro e w2 ⟨u, rfl, ho, hb2⟩
  clear j0_0 j0_1 j0_2 l_j0 j2_0 j2_1 j2_2 l_j2
  clear f20 f21 f22
  obtain ⟨A, c, rfl⟩ := own_form ho
  have HO := Lib.hid ho
  have K2 := Lib.hid (J2.out.below hb2)
  have B2 : Below w.heap.size w w2 := B1.trans (hb2.mono (by omega))
  have zz2 : w.heap.size + 2 ≤ w2.heap.size := by have := hb2.size; omega
  clear ho hb2
  have k2_0 := K2.out.cell 0 rfl
  have k2_1 := K2.out.cell 1 rfl
  have k2_2 := K2.out.cell 2 rfl
  have l_k2 := K2.out.lt
  have f20 := K2.out.frozen 0
  have f21 := K2.out.frozen 1
  have f22 := K2.out.frozen 2
  go_wp2
  try simp only [Exit.inBlock, Exit.then]
  refine bodyPost_ret (v := .tuple #[.agg #[.int .i64 st, .int .i64 bl, .slice A (srtP (ps.map (trnP st b)) ps.length).length c], .int .i64 0]) ?_ rfl ?_
  · simp [results, Try.results15, go_sem, k2_0, k2_1, k2_2]
  refine ⟨_, rfl, own_mono (base := w.heap.size + 2) ?_ (by omega), by go_grown⟩
  repeat (refine own_setCell ?_ (by first | (simp; done) | (simp; omega) | omega) _)
  exact own_mono HO.out (by omega)

theorem TurnBarrel_both (st bl : Int) (ps : List (Int × Int)) (b : Int) : ∃ (ra rb : Int) (rl : List (Int × Int)) (rc : Int), rl.length ≤ 1000 ∧
    (∀ v w, SlP w v ps → Calls Try.prog 17 #[.agg #[.int .i64 st, .int .i64 bl, v], .int .i64 b] w fun e w' => ∃ v', e = .returned (.tuple #[.agg #[.int .i64 ra, .int .i64 rb, v'], .int .i64 rc]) ∧ w'.ownsRow w.heap.size 62 2 v' rl.length (P64 rl) ∧ Below w.heap.size w w') ∧
    (∀ v w, SlP w v ps → Calls Try.prog 15 #[.agg #[.int .i64 st, .int .i64 bl, v], .int .i64 b] w fun e w' => ∃ v', e = .returned (.tuple #[.agg #[.int .i64 ra, .int .i64 rb, v'], .int .i64 rc]) ∧ w'.ownsRow w.heap.size 62 2 v' rl.length (P64 rl) ∧ Below w.heap.size w w') := by
  cases hs : brB st bl ps with
  | false => exact ⟨_, _, [], _, Nat.zero_le _, fun v w hv => TurnBarrel_i1 v ps st bl b w hv hs, fun v w hv => TurnBarrel_s1 v ps st bl b w hv hs⟩
  | true =>
    cases hf : inB b 0 (st - 1) with
    | false => exact ⟨_, _, [], _, Nat.zero_le _, fun v w hv => TurnBarrel_i2 v ps st bl b w hv hs hf, fun v w hv => TurnBarrel_s2 v ps st bl b w hv hs hf⟩
    | true =>
      obtain ⟨_, _, h3, _⟩ := brB_iff.1 hs
      exact ⟨_, _, srtP (ps.map (trnP st b)) ps.length, _, by rw [srtP_length]; omega, fun v w hv => TurnBarrel_i0 v ps st bl b w hv hs hf, fun v w hv => TurnBarrel_s0 v ps st bl b w hv hs hf⟩
end Go.Proofs.Ytgaohmbgjjhdbaa
