/- Chimes: barrels read out of texts, in the reference (ReadBarrel). -/
import Derived.Test.YtgaohmbgjjhdbaaGreatDoorRdI
import Derived.Test.YtgaohmbgjjhdbaaGreatDoorTtK
import Derived.Deep.RegionLaw
import Derived.Deep.RegionHeld3
namespace Go.Proofs.YtgaohmbgjjhdbaaGreatDoor
open Go.RowKit
attribute [local go_sem ↓] Go.wp_at_zero Go.wp_at_succ

section
variable {w : World} {ops : Array Oper} {o : Oper} {a : Act} {K : Act → World → Prop} {Q : Exit → Act → World → Prop} {E : Prop}
/-- 'ps = append(ps, Pin{m, n})' on pins that the call owns, in a region that draws its order. -/
theorem step_appPinR (hgd : o.guard = none) (s x : Operand) (ho : o.op = .call { callee := .builtin .append, args := #[s, x], argTypes := #[24, 24] })
    (base : Nat) (v : Value) (ps : List (Int × Int)) (hs : a.eval s = v) (hown : w.ownsRow base 49 2 v ps.length (P64 ps)) (m n : Int)
    (g : Nat) (hx : a.eval x = .slice (some ⟨g, 0, none⟩) 1 1) (hnew : w.heap[g]? = some (.cells #[.int .i64 m, .int .i64 n] 49 (0, 0))) (hn : ps.length ≤ 1048576) (hbase : base ≤ w.heap.size)
    (h : ∀ v' w', w'.ownsRow base 49 2 v' (ps ++ [(m, n)]).length (P64 (ps ++ [(m, n)])) → Below base w w' → w.grownBy w' v.ownBlock → K (a.put o.dst v') w') :
    if Region.wanted o (yielded ops a.tmps) = true then Oper.wp Tryz.prog o a w K Q else E := by
  obtain ⟨i0, hi, hz0, hz1, hz2⟩ := info_parts pin_info
  refine step_append_lies w hgd s x _ ho base 49 i0 _ 2 16 Tryz.underlying24 hi hz0 hz1 hz2 rfl (by decide) v ps.length (P64 ps) hs hown ⟨g, 0, none⟩ 1 1 [.int .i64 m, .int .i64 n] hx rfl
    (World.news_of_block (cs := #[.int .i64 m, .int .i64 n]) (t := 49) (fr := (0, 0)) hnew) (by intro u hu; simp at hu; rcases hu with rfl | rfl <;> rfl) (by decide) (by simp only [maxLen]; omega) (by omega) hbase w.heap.size rfl ?_
  intro b c w' h1 h2 _ _
  exact h _ w' (by rw [P64_append, List.length_append]; simpa [P64] using h1) (below_of_grown h2 hbase fun k hk => (hown.lt k hk).1) h2
end
theorem spl_two {L : List (List UInt8)} (h : L.length = 2) : ∃ a r, L = [a, r] := by
  match L, h with
  | [a, r], _ => exact ⟨a, r, rfl⟩

set_option maxRecDepth 100000 in
set_option maxHeartbeats 16000000 in
theorem ReadBarrel_s (s : List UInt8) (hs : s.length ≤ 1048576) (w : World) :
    Calls Tryz.prog 11 #[.string (bT s)] w (RdPost s w) := by
  have HP : Hid (∀ e w', (∃ (v : Value) (S : Nat) (m : Int) (ps : List (Int × Int)) (ok : Bool), e = .returned (.tuple #[.agg #[.int .i64 (S : Int), .int .i64 m, v], .bool ok]) ∧ w'.ownsRow w.heap.size 49 2 v ps.length (P64 ps) ∧ Below w.heap.size w w' ∧ RdOk s S m ps ok) → RdPost s w e w') := fun e w' h => h
  obtain ⟨D, hD⟩ : ∃ D, D = spl 58 s := ⟨_, rfl⟩
  have HS : Hid (∀ w, Calls Tryz.prog 37 #[.string (bT s), .int .u8 58] w fun e w' => ∃ v, e = .returned v ∧ w'.ownsRow w.heap.size 9 1 v D.length (X64 D) ∧ Below w.heap.size w w') := fun w => by
    rw [hD]; exact l01Split_any s 58 hs w
  have hsum := spl_sum 58 s
  rw [← hD] at hsum
  obtain ⟨bs, hbs⟩ : ∃ bs, bs = bT s := ⟨_, rfl⟩
  rw [← hbs] at HS ⊢
  have HBS := Lib.hid hbs
  have HDD := Lib.hid hD
  clear hbs hD
  go_enter Tryz.func11, Tryz.ntmps11
  have HK0 := Lib.hid (bx1 w 26 #[.int .i64 0, .int .i64 0, .slice none 0 0])
  go_wp2_with fail
  refine (HS.out _).mono ?_
  rintro e w1 ⟨v1, rfl, ho1, hb1⟩
  obtain ⟨A1, C1, rfl⟩ := own_form ho1
  have J1 := Lib.hid (HK0.out.below hb1)
  have B1 := Lib.hid (show Below w.heap.size w w1 from Below.trans (by go_grown) (hb1.mono (by simp)))
  have z1 : w.heap.size < w1.heap.size := J1.out.lt
  have HO1 := Lib.hid ho1
  clear hb1 HK0 ho1
  by_cases hl : D.length = 2
  · obtain ⟨a, r, rfl⟩ := spl_two hl
    have HCAN : Hid (∀ S M ps, Can S M ps s → a = Lib.decDigits M ∧ r = Lib.join (stsL ps S) [46]) := fun S M ps h => by
      have := HDD.out.trans h.read.1
      injection this with e1 e2
      injection e2 with e2 _
      exact ⟨e1, e2⟩
    obtain ⟨g1, c1, e1, _⟩ := HO1.out.form (by simp)
    injection e1 with e1 _ _
    subst e1
    have u0 : w1.cell? ⟨g1, 0, none⟩ = some (.string (bT a)) := by simpa [Addr.add_lit] using HO1.out.cells (g := g1) rfl 0 (.string (bT a)) rfl
    have u1 : w1.cell? ⟨g1, 1, none⟩ = some (.string (bT r)) := by simpa [Addr.add_lit] using HO1.out.cells (g := g1) rfl 1 (.string (bT r)) rfl
    have uz : g1 < w1.heap.size := by have := HO1.out.lt g1 rfl; omega
    have hal : a.length ≤ 1048576 := by simp at hsum; omega
    have hrl : r.length ≤ 1048576 := by simp at hsum; omega
    have HU1 := Lib.hid u1
    have HN := Lib.hid (fun w => l01Number_any a hal w)
    obtain ⟨L, hL⟩ : ∃ L, L = spl 46 r := ⟨_, rfl⟩
    have hsum := spl_sum 46 r
    have hLl := spl_len 46 r
    rw [← hL] at hsum hLl
    have HR : Hid (∀ w, Calls Tryz.prog 37 #[.string (bT r), .int .u8 46] w fun e w' => ∃ v, e = .returned v ∧ w'.ownsRow w.heap.size 9 1 v L.length (X64 L) ∧ Below w.heap.size w w') := fun w => by
      rw [hL]; exact l01Split_any r 46 hrl w
    have HLS := Lib.hid hL
    have HSUM : Hid ((L.map List.length).sum ≤ 1048576) := by show _ ≤ _; omega
    have hLl2 : L.length ≤ 1048577 := by omega
    obtain ⟨ba, hba⟩ : ∃ ba, ba = bT a := ⟨_, rfl⟩
    rw [← hba] at HN u0
    obtain ⟨br, hbr⟩ : ∃ br, br = bT r := ⟨_, rfl⟩
    rw [← hbr] at HR HU1 u1
    clear hl hal hrl hL hsum hLl hba hbr HS
    go_wp2_with fail
    refine (HN.out _).mono ?_
    rintro e w2 ⟨m, ok0, rfl, hm, hb2⟩
    have J2 := Lib.hid (J1.out.below hb2)
    have B2 := Lib.hid (B1.out.trans (hb2.mono B1.out.size))
    have u2 : w2.cell? ⟨g1, 1, none⟩ = some (.string br) := (hb2.cell (p := ⟨g1, 1, none⟩) uz).trans u1
    have uz2 : g1 < w2.heap.size := Nat.lt_of_lt_of_le uz hb2.size
    have HOK := Lib.hid (rd_ok HCAN.out hm)
    rw [← HLS.out] at HOK
    have z2 := hb2.size
    clear hm hb2 HN u0 u1 uz HU1 J1
    go_wp2_with fail
    refine (HR.out _).mono ?_
    rintro e w3 ⟨v3, rfl, ho3, hb3⟩
    have hL0 : 0 < L.length := by
      have := spl_ne 46 r
      rw [← HLS.out] at this
      exact List.length_pos_iff.2 this
    obtain ⟨g3, c3, rfl, _⟩ := ho3.form (by omega)
    have HO3 := Lib.hid ho3
    have J3 := Lib.hid (J2.out.below hb3)
    have B3 := Lib.hid (B2.out.trans (hb3.mono B2.out.size))
    have z3 : w.heap.size < w3.heap.size := J3.out.lt
    have g3z : g3 < w3.heap.size := (ho3.lt g3 rfl).2
    have g3w : w2.heap.size ≤ g3 := (ho3.lt g3 rfl).1
    clear u2 uz2 hb3 ho3 J2 HR
    obtain ⟨wq, hwq⟩ : ∃ wq, wq = w3.alloc (.cells #[.int .i64 (L.length : Int), .int .i64 m, .slice none 0 0] 26) := ⟨_, rfl⟩
    have zq : wq.heap.size = w3.heap.size + 1 := by subst hwq; simp
    have HST : Hid (RbAt wq w3.heap.size (L.length : Int) m (.slice none 0 0) (rdT L 0) wq) := by
      subst hwq
      exact ⟨Blk.new _ _ _, World.ownsRow_nil _ _ _ _, World.grownBy.refl _ _, by simp⟩
    have dq : Below w3.heap.size w3 wq := by subst hwq; go_grown
    have HOQ := Lib.hid (own_below HO3.out dq)
    have JQ := Lib.hid (J3.out.below dq)
    have BQ := Lib.hid (B3.out.trans (dq.mono B3.out.size))
    have HWQ := Lib.hid hwq
    clear dq hwq HO3 J3 B3
    go_wp2_with fail
    go_loopw [9] (fun i wr => ∃ (k : Nat) (vv : Value), k ≤ L.length ∧ i = .int .i64 (k : Nat) ∧ RbAt wq w3.heap.size (L.length : Int) m vv (rdT L k) wr) (fun i _ => L.length - (intOf i).toNat)
    case atStart => exact ⟨0, _, Nat.zero_le _, by go_num, by have h := HST.out; rw [HWQ.out] at h ⊢; exact h⟩
    case round =>
      clear HST
      obtain ⟨k, vv, hk, rfl, hL⟩ := hrel
      obtain ⟨wi, rfl⟩ : ∃ x : World, x = wr := ⟨_, rfl⟩
      have HL := Lib.hid hL
      obtain ⟨b1, ho, hG, _⟩ := hL
      by_cases hlt : k < L.length
      · obtain ⟨x, hx⟩ : ∃ x, x = L.getD k [] := ⟨_, rfl⟩
        have uq : wq.cell? ⟨g3, k, none⟩ = some (.string (bT x)) := by rw [hx]; simpa [Addr.add_lit] using HOQ.out.cells (g := g3) rfl k _ (X64_get hlt)
        have u1 : wi.cell? ⟨g3, k, none⟩ = some (.string (bT x)) := hG.cell uq (by simp; omega)
        have uz : g3 < wi.heap.size := by have := hG.size; omega
        have hxl := part_le hlt
        rw [← hx] at hxl
        have hxl2 : x.length ≤ 1048576 := by have := HSUM.out; omega
        have i1 : (k : Int) < (L.length : Int) := by omega
        have HX := Lib.hid hx
        have zx := bT_size x
        have HUQ : Hid (∀ wr, wq.grownBy wr (some w3.heap.size) → wr.cell? ⟨g3, k, none⟩ = some (.string (bT x)) ∧ g3 < wr.heap.size) := fun wr hG => ⟨hG.cell uq (by simp; omega), by have := hG.size; omega⟩
        obtain ⟨bx, hbx⟩ : ∃ bx, bx = bT x := ⟨_, rfl⟩
        rw [← hbx] at u1 zx HUQ
        have HBX := Lib.hid hbx
        have HGT : Hid (∀ i (_ : i < x.length) (_ : i < bx.size), bx[i] = x[i]) := fun i h h' => by subst hbx; rfl
        by_cases hd : x = [45]
        · have hE : (bx.toList == [45]) = true := by rw [HBX.out, Lib.toList_data, hd]; rfl
          have HJ : Hid (rdT L (k + 1) = rdT L k) := by
            have e := HX.out ▸ hd
            show _ = _
            rw [← rdJ_end rfl, rdJ_dash e]
          clear hx hxl b1 ho hG hbx uq hd HGT
          go_wp2_with fail
          exact ⟨⟨k + 1, vv, by omega, by go_num, by rw [HJ.out]; exact HL.out⟩, by simp [intOf]; omega⟩
        · have hE : (bx.toList == [45]) = false := by
            rw [beq_eq_false_iff_ne, HBX.out, Lib.toList_data]
            intro e
            exact hd (by simpa [bT] using e)
          have HD := Lib.hid hd
          clear hx hxl b1 ho hG hbx uq hd
          go_wp2_with fail
          go_loopw [10] (fun i wr => ∃ (j : Nat) (vv : Value), j ≤ x.length ∧ i = .int .i64 (j : Nat) ∧ RbAt wq w3.heap.size (L.length : Int) m vv (rdJ L k j) wr) (fun i _ => x.length - (intOf i).toNat)
          case atStart => exact ⟨0, vv, Nat.zero_le _, by go_num, by rw [rdJ_zero]; exact HL.out⟩
          case round =>
            clear u1 uz
            obtain ⟨j, vv, hj, rfl, hL2⟩ := hrel
            obtain ⟨wj, rfl⟩ : ∃ x : World, x = wr := ⟨_, rfl⟩
            have HL2 := Lib.hid hL2
            obtain ⟨q1, ho, hG, _⟩ := hL2
            obtain ⟨u1, uz⟩ := HUQ.out wj hG
            by_cases hjl : j < x.length
            · have i2 : (j : Int) < (bx.size : Int) := by omega
              have i3 : j < bx.size := by omega
              obtain ⟨y, hy⟩ : ∃ y, y = x[j] := ⟨_, rfl⟩
              have hg : bx[j] = y := by rw [hy]; exact HGT.out j hjl i3
              have c0 := UInt8.toNat_lt y
              have e1 : IntKind.i64.wrap (y.toNat : Int) = (y.toNat : Int) := IntWalk.i64_in _ (by omega)
              have e2 : IntKind.i64.wrap ((y.toNat : Int) - 97) = (y.toNat : Int) - 97 := IntWalk.i64_in _ (by omega)
              have HJ : Hid (rdJ L k j ++ [((k : Int), (y.toNat : Int) - 97)] = rdJ L k (j + 1)) := by
                have hx := HX.out
                have hd := HD.out
                subst hx
                rw [hy]
                exact (rdJ_succ hd hjl).symm
              have hpl : Hid ((rdJ L k j).length ≤ 1048576) := by
                show _ ≤ _
                have h1 := rdJ_le (j := j) hlt
                have h2 := HSUM.out
                omega
              obtain ⟨P, hP⟩ : ∃ P, P = rdJ L k j := ⟨_, rfl⟩
              have HPJ := Lib.hid hP
              rw [← hP] at HL2 HJ hpl ho
              obtain ⟨A, C, rfl⟩ := own_form ho
              have q2 := q1.cell 2 rfl
              have qz := q1.lt
              have hz4 : wq.heap.size ≤ wj.heap.size := hG.size
              clear hy q1 ho hG hP
              go_wp2_with fail
              go_region_law
                ((refine step_appPinR rfl _ _ (by rfl) wq.heap.size _ P (by rfl) (by first | exact (HL2.out.2.1.alloc _).drew | exact HL2.out.2.1.alloc _ | exact own_below HL2.out.2.1 (by go_grown)) (k : Int) ((y.toNat : Int) - 97) wj.heap.size (by rfl) (heap_alloc_new wj _) hpl.out (by simp; omega) ?_; intro v6 w6 ho6 hb6 hg6; have B6 : Below wq.heap.size wj w6 := (Below.trans (by go_grown) hb6); obtain ⟨ps', A4, C4', g1, rfl, e0, e3⟩ := HL2.out.app ho6 B6; have f1 := e0.frozen 2; have q2 := e0.cell 2 rfl; have z4 := e0.lt; have E1 := Lib.hid e3; have HGL := Lib.hid (g1.trans HJ.out); clear ho6 hb6 hg6 B6 e0 e3 g1))
              all_goals
                go_wp2
                exact ⟨⟨j + 1, _, by omega, by go_num, by rw [← HGL.out]; exact E1.out⟩, by simp [intOf]; omega⟩
            · obtain rfl : j = x.length := by omega
              have HJ : Hid (rdJ L k x.length = rdT L (k + 1)) := rdJ_end (by rw [HX.out])
              have i2 : ¬ (x.length : Int) < (bx.size : Int) := by omega
              clear q1 ho hG
              go_wp2_with fail
              exact ⟨⟨k + 1, vv, by omega, by go_num, by rw [← HJ.out]; exact HL2.out⟩, by simp [intOf]; omega⟩
      · obtain rfl : k = L.length := by omega
        obtain ⟨Q, hQ⟩ : ∃ Q, Q = rdT L L.length := ⟨_, rfl⟩
        rw [← hQ] at HL ho HOK
        obtain ⟨A, C, rfl⟩ := own_form ho
        have p0 := b1.cell 0 rfl
        have p1 := b1.cell 1 rfl
        have p2 := b1.cell 2 rfl
        have pz := b1.lt
        have HB := Lib.hid (show Below w.heap.size w wi from BQ.out.trans (below_of_grown hG (BQ.out.size) (fun j hj => by cases hj; omega)))
        have JI := Lib.hid (JQ.out.grown hG (by simp; omega))
        have HV := Lib.hid (SlP.of_own ho)
        have HO := Lib.hid (own_mono ho (show w.heap.size + 1 ≤ wq.heap.size by omega))
        have HBL := Lib.hid b1
        have i1 : ¬ (L.length : Int) < (L.length : Int) := by omega
        clear b1 ho hG hQ
        have HOK2 : Hid (∀ S M ps, Can S M ps s → S = L.length ∧ m = (M : Int) ∧ ps = Q) := fun S M ps h => (HOK.out S M ps h).2
        cases ok0 with
        | false =>
          have HRD := Lib.hid (rd_no3 HOK.out)
          have r0 := JI.out.cell 0 rfl
          have r1 := JI.out.cell 1 rfl
          have r2 := JI.out.cell 2 rfl
          have rf0 := JI.out.frozen 0
          have rf1 := JI.out.frozen 1
          have rf2 := JI.out.frozen 2
          have rz := JI.out.lt
          go_wp2
          try simp only [Exit.inBlock, Exit.then]
          refine bodyPost_ret (v := .tuple #[.agg #[.int .i64 0, .int .i64 0, .slice none 0 0], .bool false]) ?_ rfl ?_
          · simp [results, Tryz.results11, go_sem, r0, r1, r2]
          · exact HP.out _ _ ⟨_, 0, 0, [], false, rfl, World.ownsRow_nil _ _ _ _, by have := HB.out; go_grown, HRD.out⟩
        | true =>
          go_wp2_with fail
          refine (l22Ok_s _ Q (L.length : Int) m _ (HV.out.below (by go_grown))).mono ?_
          rintro e w5 ⟨rfl, hb5⟩
          have b5 : Below wi.heap.size wi w5 := Below.trans (by go_grown) (hb5.mono (by first | (simp; done) | (simp; omega) | omega))
          have HB5 := Lib.hid (HB.out.trans (b5.mono HB.out.size))
          have J5 := Lib.hid (JI.out.below b5)
          have L5 := Lib.hid (HBL.out.below b5)
          have O5 := Lib.hid (own_below HO.out b5)
          have V5 := Lib.hid (HV.out.below b5)
          clear b5 hb5 p0 p1 p2 pz
          have p0 := L5.out.cell 0 rfl
          have p1 := L5.out.cell 1 rfl
          have p2 := L5.out.cell 2 rfl
          have pz := L5.out.lt
          have r0 := J5.out.cell 0 rfl
          have r1 := J5.out.cell 1 rfl
          have r2 := J5.out.cell 2 rfl
          have rf0 := J5.out.frozen 0
          have rf1 := J5.out.frozen 1
          have rf2 := J5.out.frozen 2
          have rz := J5.out.lt
          cases hbq : brB (L.length : Int) m Q with
          | false =>
            have HRD := Lib.hid (rd_no1 (ok0 := true) (fun S M ps h => ⟨rfl, HOK2.out S M ps h⟩) hbq)
            clear hbq
            go_wp2
            try simp only [Exit.inBlock, Exit.then]
            refine bodyPost_ret (v := .tuple #[.agg #[.int .i64 0, .int .i64 0, .slice none 0 0], .bool false]) ?_ rfl ?_
            · simp [results, Tryz.results11, go_sem, r0, r1, r2]
            · exact HP.out _ _ ⟨_, 0, 0, [], false, rfl, World.ownsRow_nil _ _ _ _, by have := HB5.out; go_grown, HRD.out⟩
          | true =>
            have H6 := Lib.hid (fun w' (hb : Below w5.heap.size w5 w') => l22Text_any _ Q L.length m w' (V5.out.below hb) hbq)
            have HBQ := Lib.hid hbq
            clear hbq
            go_wp2_with fail
            refine (H6.out _ (by go_grown)).mono ?_
            rintro e w6 ⟨rfl, hb6⟩
            have b6 : Below w5.heap.size w5 w6 := Below.trans (by go_grown) (hb6.mono (by first | (simp; done) | (simp; omega) | omega))
            have HB6 := Lib.hid (HB5.out.trans (b6.mono HB5.out.size))
            have J6 := Lib.hid (J5.out.below b6)
            have L6 := Lib.hid (L5.out.below b6)
            have O6 := Lib.hid (own_below O5.out b6)
            clear b6 hb6 p0 p1 p2 pz r0 r1 r2 rf0 rf1 rf2 rz H6
            have p0 := L6.out.cell 0 rfl
            have p1 := L6.out.cell 1 rfl
            have p2 := L6.out.cell 2 rfl
            have pz := L6.out.lt
            have r0 := J6.out.cell 0 rfl
            have r1 := J6.out.cell 1 rfl
            have r2 := J6.out.cell 2 rfl
            have rf0 := J6.out.frozen 0
            have rf1 := J6.out.frozen 1
            have rf2 := J6.out.frozen 2
            have rz := J6.out.lt
            obtain ⟨bt, hbt⟩ : ∃ bt, bt = bT (txL m Q L.length) := ⟨_, rfl⟩
            rw [← hbt]
            by_cases hq : bt = bs
            · have hE : (bt.toList == bs.toList) = true := by rw [hq]; exact beq_self_eq_true _
              have HRD := Lib.hid (rd_yes (s := s) HBQ.out (hbt.symm.trans (hq.trans HBS.out)))
              clear hq hbt
              go_wp2
              try simp only [Exit.inBlock, Exit.then]
              refine bodyPost_ret (v := .tuple #[.agg #[.int .i64 (L.length : Int), .int .i64 m, .slice A Q.length C], .bool true]) ?_ rfl ?_
              · simp [results, Tryz.results11, go_sem, r0, r1, r2]
              · refine HP.out _ _ ⟨_, L.length, m, Q, true, rfl, own_mono (base := w.heap.size + 1) ?_ (by omega), by have := HB6.out; go_grown, HRD.out⟩
                repeat (refine own_setCell ?_ (by first | (simp; done) | (simp; omega) | omega) _)
                exact O6.out
            · have hE : (bt.toList == bs.toList) = false := by
                rw [beq_eq_false_iff_ne]
                intro e
                rw [Lib.toList_data, Lib.toList_data] at e
                exact hq (ByteArray.ext (Array.toList_inj.1 e))
              have HRD := Lib.hid (rd_no2 (ok0 := true) (fun S M ps h => ⟨rfl, HOK2.out S M ps h⟩) (fun e => hq (hbt.trans (e.trans HBS.out.symm))))
              clear hq hbt
              go_wp2
              try simp only [Exit.inBlock, Exit.then]
              refine bodyPost_ret (v := .tuple #[.agg #[.int .i64 0, .int .i64 0, .slice none 0 0], .bool false]) ?_ rfl ?_
              · simp [results, Tryz.results11, go_sem, r0, r1, r2]
              · exact HP.out _ _ ⟨_, 0, 0, [], false, rfl, World.ownsRow_nil _ _ _ _, by have := HB6.out; go_grown, HRD.out⟩
  · have hn : ¬ (D.length : Int) = 2 := by omega
    have HRD : Hid (RdOk s 0 0 [] false) := Or.inr ⟨rfl, rfl, rfl, rfl, fun S M ps h => by
      have := HDD.out.trans h.read.1
      rw [this] at hl
      exact hl rfl⟩
    have r0 := J1.out.cell 0 rfl
    have r1 := J1.out.cell 1 rfl
    have r2 := J1.out.cell 2 rfl
    have rf0 := J1.out.frozen 0
    have rf1 := J1.out.frozen 1
    have rf2 := J1.out.frozen 2
    clear hl
    go_wp2
    try simp only [Exit.inBlock, Exit.then]
    refine bodyPost_ret (v := .tuple #[.agg #[.int .i64 0, .int .i64 0, .slice none 0 0], .bool false]) ?_ rfl ?_
    · simp [results, Tryz.results11, go_sem, r0, r1, r2]
    · exact HP.out _ _ ⟨_, 0, 0, [], false, rfl, World.ownsRow_nil _ _ _ _, by have := B1.out; go_grown, HRD.out⟩
end Go.Proofs.YtgaohmbgjjhdbaaGreatDoor
