/- Chimes: barrels whose pins are changed and put in order again; TurnBarrel in the program and in the reference. -/
import Derived.Test.YtgaohmbgjjhdbaaGreatDoorChO
import Derived.BigRegion
namespace Go.Proofs.YtgaohmbgjjhdbaaGreatDoor
open Go.RowKit
attribute [local go_sem ↓] Go.wp_at_zero Go.wp_at_succ

def trnP (st b : Int) (p : Int × Int) : Int × Int := ((p.1 + b) % st, p.2)



section
variable {w : World} {ops : Array Oper} {o : Oper} {a : Act} {K : Act → World → Prop} {Q : Exit → Act → World → Prop} {E : Prop}
/-- 'ps = append(ps, Pin{m, n})' on pins that the call owns, in a region that draws its order. -/
theorem step_appPin (hgd : o.guard = none) (s x : Operand) (ho : o.op = .call { callee := .builtin .append, args := #[s, x], argTypes := #[24, 24] })
    (base : Nat) (v : Value) (ps : List (Int × Int)) (hs : a.eval s = v) (hown : w.ownsRow base 49 2 v ps.length (P64 ps)) (m n : Int)
    (g : Nat) (hx : a.eval x = .slice (some ⟨g, 0, none⟩) 1 1) (hnew : w.heap[g]? = some (.cells #[.int .i64 m, .int .i64 n] 49 (0, 0))) (L : Nat) (hL : ps.length = L) (hn : ps.length ≤ 1048576) (hbase : base ≤ w.heap.size)
    (h : ∀ b c w', w'.ownsRow base 49 2 (.slice (some ⟨b, 0, none⟩) (L + 1) c) (ps ++ [(m, n)]).length (P64 (ps ++ [(m, n)])) → Below base w w' → w.grownBy w' v.ownBlock → K (a.put o.dst (.slice (some ⟨b, 0, none⟩) (L + 1) c)) w') :
    if Region.wanted o (yielded ops a.tmps) = true then Oper.wp Tryz.prog o a w K Q else E := by
  subst hL
  obtain ⟨i0, hi, hz0, hz1, hz2⟩ := info_parts pin_info
  refine step_append_lies w hgd s x _ ho base 49 i0 _ 2 16 Tryz.underlying24 hi hz0 hz1 hz2 rfl (by decide) v ps.length (P64 ps) hs hown ⟨g, 0, none⟩ 1 1 [.int .i64 m, .int .i64 n] hx rfl
    (World.news_of_block (cs := #[.int .i64 m, .int .i64 n]) (t := 49) (fr := (0, 0)) hnew) (by intro u hu; simp at hu; rcases hu with rfl | rfl <;> rfl) (by decide) (by simp only [maxLen]; omega) (by omega) hbase w.heap.size rfl ?_
  intro b c w' h1 h2 _ _
  exact h b c w' (by rw [P64_append]; simpa [P64] using h1) (below_of_grown h2 hbase fun k hk => (hown.lt k hk).1) h2
end

set_option maxRecDepth 100000 in
set_option maxHeartbeats 16000000 in
theorem l22Turn_any (v : Value) (ps : List (Int × Int)) (st bl b : Int) (w : World) (hv : SlP w v ps) (hn : ps.length ≤ 100000) (hp : ∀ k, k < ps.length → 0 ≤ (pi ps k).1 ∧ (pi ps k).1 < st) (hb : 0 ≤ b) (hb3 : b < st) (hs : st ≤ 64) :
    Calls Tryz.prog 39 #[.agg #[.int .i64 st, .int .i64 bl, v], .int .i64 b] w fun e w' => ∃ v', e = .returned (.agg #[.int .i64 st, .int .i64 bl, v']) ∧ w'.ownsRow w.heap.size 49 2 v' (srtP (ps.map (trnP st b)) ps.length).length (P64 (srtP (ps.map (trnP st b)) ps.length)) ∧ Below w.heap.size w w' := by
  have HP := Lib.hid hp
  obtain ⟨A, c, rfl, hac, hac', HA⟩ := hv.open_
  clear hv hp
  go_enter Tryz.func39, Tryz.ntmps39
  obtain ⟨k0, k1⟩ := bx2 w 26 26 #[.int .i64 st, .int .i64 bl, .slice A ps.length c] #[.int .i64 0, .int .i64 0, .slice none 0 0]
  have HK0 := Lib.hid (k0.alloc (.cells #[] 49))
  have HK1 := Lib.hid (k1.alloc (.cells #[] 49))
  have HL0 := Lib.hid (own_litQ (base := w.heap.size + 1 + 1) ((w.alloc (.cells #[.int .i64 st, .int .i64 bl, .slice A ps.length c] 26)).alloc (.cells #[.int .i64 0, .int .i64 0, .slice none 0 0] 26)) (w.heap.size + 1 + 1) (by simp) (Nat.le_refl _) 49)
  clear k0 k1
  go_wp2_with fail
  go_loopw [5, 6] (fun q i wr => ∃ j : Nat, j ≤ ps.length ∧ i = .int .i64 j ∧ wr.ownsRow (w.heap.size + 1 + 1) 49 2 q ((ps.take j).map (trnP st b)).length (P64 ((ps.take j).map (trnP st b))) ∧ Blk wr w.heap.size 26 #[.int .i64 st, .int .i64 bl, .slice A ps.length c] ∧ Blk wr (w.heap.size + 1) 26 #[.int .i64 0, .int .i64 0, .slice none 0 0] ∧ Below w.heap.size w wr ∧ w.heap.size + 1 + 1 ≤ wr.heap.size) (fun _ i _ => ps.length - (intOf i).toNat)
  case atStart => exact ⟨0, Nat.zero_le _, rfl, HL0.out, HK0.out, HK1.out, by go_grown, by simp⟩
  case round =>
    obtain ⟨j, hj, rfl, ho, b0, b1, hB, hz⟩ := hrel
    obtain ⟨wo, rfl⟩ : ∃ x : World, x = wr := ⟨_, rfl⟩
    have hml : ((ps.take j).map (trnP st b)).length = j := by rw [List.length_map, List.length_take]; omega
    rw [hml] at ho
    obtain ⟨Aq, cq, rfl⟩ := own_form ho
    have q0 := b0.cell 0 rfl
    have q2 := b0.cell 2 rfl
    have z0 := b0.lt
    have HO := Lib.hid ho
    have P0 := Lib.hid b0
    have P1 := Lib.hid b1
    have HB := Lib.hid hB
    have HML := Lib.hid hml
    clear ho b0 b1 HK0 HK1 HL0
    by_cases hlt : j < ps.length
    · obtain ⟨ba, oa, rfl, hba, hca⟩ := HA.out j hlt
      have a0 : wo.cell? ⟨ba, oa + j * 2, none⟩ = _ := (hB.cell (p := ⟨ba, oa + j * 2, none⟩) hba).trans (hca j hlt).1
      have a1 : wo.cell? ⟨ba, oa + j * 2 + 1, none⟩ = _ := (hB.cell (p := ⟨ba, oa + (j * 2 + 1), none⟩) hba).trans (hca j hlt).2
      have zb : ba < wo.heap.size := Nat.lt_of_lt_of_le hba hB.size
      have i1 : (j : Int) < (ps.length : Int) := by omega
      have i3 : (ps.length : Int) ≤ (c : Int) := by omega
      obtain ⟨p1, p2⟩ := HP.out j hlt
      have e1 : IntKind.i64.wrap ((pi ps j).1 + b) = (pi ps j).1 + b := IntWalk.i64_in _ (by omega)
      have e2 : ((pi ps j).1 + b).tmod st = ((pi ps j).1 + b) % st := Int.tmod_eq_emod_of_nonneg (by omega)
      have e3 : IntKind.i64.wrap (((pi ps j).1 + b) % st) = ((pi ps j).1 + b) % st := by
        have h1 := Int.emod_nonneg ((pi ps j).1 + b) (show st ≠ 0 by omega)
        have h2 := Int.emod_lt_of_pos ((pi ps j).1 + b) (show 0 < st by omega)
        exact IntWalk.i64_in _ (by omega)
      have e4 : ¬ st = 0 := by omega
      have HOL : Hid (wo.ownsRow (w.heap.size + 1 + 1) 49 2 (.slice Aq j cq) ((ps.take j).map (trnP st b)).length (P64 ((ps.take j).map (trnP st b)))) := by
        show World.ownsRow _ _ _ _ _ _ _
        rw [HML.out]
        exact HO.out
      have HE : Hid ((ps.take (j + 1)).map (trnP st b) = (ps.take j).map (trnP st b) ++ [(((pi ps j).1 + b) % st, (pi ps j).2)]) := by
        show _ = _
        rw [List.take_succ_eq_append_getElem hlt, List.map_append, pi_eq hlt]; rfl
      have HL : Hid (((ps.take j).map (trnP st b)).length ≤ 1048576) := by show _ ≤ _; omega
      have HSr := Lib.hid (fun (w' : World) (hw : Below (w.heap.size + 1 + 1) wo w') => (⟨(P0.out.belowB hw (by omega)).cell 0 rfl, (P0.out.belowB hw (by omega)).cell 2 rfl, (World.cell?_of_block (a := ⟨ba, oa + j * 2, none⟩) (hw.block ba (by omega))).trans a0, (World.cell?_of_block (a := ⟨ba, oa + j * 2 + 1, none⟩) (hw.block ba (by omega))).trans a1⟩ : w'.cell? ⟨w.heap.size, 0, none⟩ = some (.int .i64 st) ∧ w'.cell? ⟨w.heap.size, 2, none⟩ = some (.slice (some ⟨ba, oa, none⟩) ps.length c) ∧ w'.cell? ⟨ba, oa + j * 2, none⟩ = some (.int .i64 (pi ps j).1) ∧ w'.cell? ⟨ba, oa + j * 2 + 1, none⟩ = some (.int .i64 (pi ps j).2)))
      clear hca HA hB hml
      go_wp2_with fail
      go_region_held3 (fun w' => w'.cell? ⟨w.heap.size, 0, none⟩ = some (.int .i64 st) ∧ w'.cell? ⟨w.heap.size, 2, none⟩ = some (.slice (some ⟨ba, oa, none⟩) ps.length c) ∧ w'.cell? ⟨ba, oa + j * 2, none⟩ = some (.int .i64 (pi ps j).1) ∧ w'.cell? ⟨ba, oa + j * 2 + 1, none⟩ = some (.int .i64 (pi ps j).2)) (first | assumption | (refine HSr.out _ ?_; go_grown; done) | go_keep)
        ((refine step_appPin rfl _ _ (by rfl) (w.heap.size + 1 + 1) _ ((ps.take j).map (trnP st b)) (by rfl) (by first | exact (HOL.out.alloc _).drew | exact HOL.out.alloc _) _ _ wo.heap.size (by rfl) (heap_alloc_new wo _) j HML.out HL.out (by simp; omega) ?_; intro b6 c6 w6 ho6 hb6 hg6; have HO6 := Lib.hid ho6; have HB6 : Hid (Below (w.heap.size + 1 + 1) wo w6) := (Below.trans (by go_grown) hb6); obtain ⟨s0, s1, s2, s3⟩ := HSr.out w6 HB6.out; clear ho6 hb6 hg6))
      all_goals
        go_wp2
        go_roundw
        case rel => exact ⟨j + 1, by omega, by go_num, by rw [HE.out]; exact HO6.out, P0.out.belowB HB6.out (by omega), P1.out.belowB HB6.out (by omega), HB.out.trans (HB6.out.mono (by omega)), by have := HB6.out.size; omega⟩
        case measure => simp [intOf]; omega
    · obtain rfl : j = ps.length := by omega
      have HSL : Hid (∀ w', Below wo.heap.size wo w' → SlP w' (.slice Aq ps.length cq) (ps.map (trnP st b))) := fun w' hw => by
        have h := HO.out
        rw [List.take_length] at h
        have h2 : wo.ownsRow (w.heap.size + 1 + 1) 49 2 (.slice Aq ps.length cq) (ps.map (trnP st b)).length (P64 (ps.map (trnP st b))) := by rw [List.length_map]; exact h
        exact (SlP.of_own h2).below hw
      have HN : Hid ((ps.map (trnP st b)).length ≤ 100000) := by show _ ≤ _; rw [List.length_map]; exact hn
      have HSr := Lib.hid (fun (w' : World) (hw : Below (w.heap.size + 1 + 1) wo w') => (⟨(P0.out.belowB hw (by omega)).cell 0 rfl, (P0.out.belowB hw (by omega)).cell 1 rfl⟩ : w'.cell? ⟨w.heap.size, 0, none⟩ = some (.int .i64 st) ∧ w'.cell? ⟨w.heap.size, 1, none⟩ = some (.int .i64 bl)))
      clear HA hB hml
      go_wp2_with fail
      clear q0 q2
      go_region_held3 (fun w' => w'.cell? ⟨w.heap.size, 0, none⟩ = some (.int .i64 st) ∧ w'.cell? ⟨w.heap.size, 1, none⟩ = some (.int .i64 bl)) (first | assumption | (refine HSr.out _ ?_; go_grown; done) | go_keep)
        ((go_at_call 27; refine (l22Sort_any _ (ps.map (trnP st b)) _ (HSL.out _ (by go_grown)) HN.out).mono ?_; rintro e w2 ⟨u, rfl, ho2, hb2⟩; obtain ⟨A2, c2, rfl⟩ := own_form ho2; have HO2 := Lib.hid ho2; have HB2 : Hid (Below (w.heap.size + 1 + 1) wo w2) := (Below.trans (by go_grown) (hb2.mono (by first | (simp; done) | (simp; omega) | omega))); obtain ⟨s0, s1⟩ := HSr.out w2 HB2.out; have j2 := P1.out.belowB HB2.out (by omega); have t0 := j2.cell 0 rfl; have t1 := j2.cell 1 rfl; have t2 := j2.cell 2 rfl; have f0 := j2.frozen 0; have f1 := j2.frozen 1; have f2 := j2.frozen 2; have y2 := j2.lt; clear ho2 hb2 j2))
      all_goals
        go_wp2
        try simp only [Exit.inBlock, Exit.then]
        refine bodyPost_ret (v := .agg #[.int .i64 st, .int .i64 bl, .slice A2 (srtP (ps.map (trnP st b)) ps.length).length c2]) ?_ rfl ?_
        · simp [results, Tryz.results39, go_sem, t0, t1, t2]
        have hb3 := HB.out.trans (HB2.out.mono (by omega))
        refine ⟨_, rfl, own_mono (base := w.heap.size + 2) ?_ (by omega), by go_grown⟩
        repeat (refine own_setCell ?_ (by first | (simp; done) | (simp; omega) | omega) _)
        have h := HO2.out
        rw [List.length_map] at h
        exact own_mono h (by first | exact hz | (simp; exact hz) | (simp; omega))

theorem pinOk_at {st bl : Int} {ps : List (Int × Int)} {k : Nat} (h : PinOk st bl ps k) : 0 ≤ (pi ps k).1 ∧ (pi ps k).1 ≤ st - 1 ∧ 0 ≤ (pi ps k).2 ∧ (pi ps k).2 ≤ bl - 1 := by
  have h1 := inB_iff.1 h.1
  have h2 := inB_iff.1 h.2.1
  omega







end Go.Proofs.YtgaohmbgjjhdbaaGreatDoor
