/- Chimes: barrels read out of texts, in the program (ReadBarrel). -/
import Derived.Test.YtgaohmbgjjhdbaaGreatDoorRdP
namespace Go.Proofs.YtgaohmbgjjhdbaaGreatDoor
open Go.RowKit
attribute [local go_sem ↓] Go.wp_at_zero Go.wp_at_succ

section
variable {w : World} {ops : Array Oper} {rest : List Oper} {o : Oper} {a : Act} {Q : Exit → Act → World → Prop}
/-- A pin behind pins that the call owns; where the pins lie then. -/
theorem wpList_appPin4 (hgd : o.guard = none) (s x : Operand) (ho : o.op = .call { callee := .builtin .append, args := #[s, x], argTypes := #[24, 24] })
    (base : Nat) (v : Value) (ps : List (Int × Int)) (hs : a.eval s = v) (hown : w.ownsRow base 49 2 v ps.length (P64 ps)) (m n : Int)
    (g : Nat) (hx : a.eval x = .slice (some ⟨g, 0, none⟩) 1 1) (hg : w.heap.size = g) (hn : ps.length ≤ 134217728) (hbase : base ≤ w.heap.size)
    (h : ∀ v' w', w'.ownsRow base 49 2 v' (ps ++ [(m, n)]).length (P64 (ps ++ [(m, n)])) → Below base w w' → w.grownBy w' v.ownBlock → (v'.ownBlock = v.ownBlock ∨ v'.ownBlock = some (w.heap.size + 1)) → wpList Tryz.prog ops Q rest (a.put o.dst v') w') :
    wpList Tryz.prog ops Q (o :: rest) a (w.alloc (.cells #[.int .i64 m, .int .i64 n] 49)) := by
  subst hg
  obtain ⟨i0, hi, hz0, hz1, hz2⟩ := info_parts pin_info
  exact wpList_app hgd s x _ ho Tryz.underlying24 hi hz0 hz1 hz2 rfl (by decide) (by decide) base v ps.length (P64 ps) hs hown [.int .i64 m, .int .i64 n] rfl (by intro u hu; simp at hu; rcases hu with rfl | rfl <;> rfl) hx hn hbase
    (fun v' w' h1 h2 h3 h4 => h v' w' (by rw [P64_append]; simpa [P64] using h1) h2 h3 h4)
end
/-- The bytes of a text in block g, apart from the value vv. -/
def ByG (g : Nat) (x : List UInt8) (vv : Value) (wr : World) : Prop := vv.ownBlock ≠ some g ∧ g < wr.heap.size ∧ ∀ j (_ : j < x.length), wr.cell? ⟨g, j, none⟩ = some (.int .u8 (x[j].toNat : Int))
theorem ByG.app {g : Nat} {x : List UInt8} {vv v' : Value} {wr w4 : World} (h : ByG g x vv wr) (hg : wr.grownBy w4 vv.ownBlock) (hv : v'.ownBlock = vv.ownBlock ∨ v'.ownBlock = some (wr.heap.size + 1)) {p : Addr} (hp : p.block ≠ g) (u : Value) : ByG g x v' (w4.setCell p u) := by
  obtain ⟨h1, h2, h3⟩ := h
  refine ⟨?_, by simp; have := hg.size; omega, fun j hj => ?_⟩
  · rcases hv with e | e
    · rw [e]; exact h1
    · rw [e]; intro e2; injection e2 with e2; omega
  · have e1 : w4.cell? ⟨g, j, none⟩ = some (.int .u8 (x[j].toNat : Int)) := hg.cell (h3 j hj) (fun e => h1 e.symm)
    exact (World.cell?_of_block (a := ⟨g, j, none⟩) (Below.heap_setCell w4 p u g (fun e => hp e.symm))).trans e1

set_option maxRecDepth 100000 in
set_option maxHeartbeats 16000000 in
theorem ReadBarrel_i (s : List UInt8) (hs : s.length ≤ 1048576) (w : World) (hg : GX w) :
    Calls Tryz.prog 9 #[.string (bT s)] w (RdPost s w) := by
  have HP : Hid (∀ e w', (∃ (v : Value) (S : Nat) (m : Int) (ps : List (Int × Int)) (ok : Bool), e = .returned (.tuple #[.agg #[.int .i64 (S : Int), .int .i64 m, v], .bool ok]) ∧ w'.ownsRow w.heap.size 49 2 v ps.length (P64 ps) ∧ Below w.heap.size w w' ∧ RdOk s S m ps ok) → RdPost s w e w') := fun e w' h => h
  obtain ⟨a, ha⟩ : ∃ a, a = (Lib.cut s [58]).1 := ⟨_, rfl⟩
  obtain ⟨r, hr⟩ : ∃ r, r = (Lib.cut s [58]).2.1 := ⟨_, rfl⟩
  obtain ⟨f, hf⟩ : ∃ f, f = (Lib.cut s [58]).2.2 := ⟨_, rfl⟩
  obtain ⟨hl1, hl2⟩ := cut_len s 58
  rw [← ha] at hl1
  rw [← hr] at hl2
  have HC : Hid (∀ w, GX w → Calls Tryz.prog 31 #[.string (bT s), .string ⟨#[58]⟩] w fun e w' => e = .returned (.tuple #[.string (bT a), .string (bT r), .bool f]) ∧ Below w.heap.size w w') := fun w hg => by
    rw [ha, hr, hf]; exact Cut_any s w hs hg
  have HCAN : Hid (∀ S M ps, Can S M ps s → a = Lib.decDigits M ∧ r = Lib.join (stsL ps S) [46]) := fun S M ps h => by
    have := h.read.2.1
    rw [ha, hr, this]
    exact ⟨rfl, rfl⟩
  obtain ⟨L, hL⟩ : ∃ L, L = spl 46 r := ⟨_, rfl⟩
  have hsum := spl_sum 46 r
  have hLl := spl_len 46 r
  rw [← hL] at hsum hLl
  have HS : Hid (∀ w, GX w → Calls Tryz.prog 32 #[.string (bT r), .string ⟨#[46]⟩] w fun e w' => e = .returned (.slice (some ⟨w.heap.size, 0, none⟩) L.length L.length) ∧ w' = w.alloc (.cells (X64 L).toArray 9)) := fun w hg => by
    rw [hL]; exact Split_any r w (by omega) hg
  have HR : Hid (∀ w, GX w → _) := fun w hg => ReadDecimal_any a (by omega) w hg
  have HLS := Lib.hid hL
  have HSUM : Hid ((L.map List.length).sum ≤ 1048576) := by show _ ≤ _; omega
  have hLl2 : L.length ≤ 1048577 := by omega
  obtain ⟨bs, hbs⟩ : ∃ bs, bs = bT s := ⟨_, rfl⟩
  rw [← hbs] at HC ⊢
  have HBS := Lib.hid hbs
  obtain ⟨ba, hba⟩ : ∃ ba, ba = bT a := ⟨_, rfl⟩
  rw [← hba] at HC HR
  obtain ⟨br, hbr⟩ : ∃ br, br = bT r := ⟨_, rfl⟩
  rw [← hbr] at HC HS
  have HG := Lib.hid hg
  clear ha hr hf hL hl1 hl2 hsum hLl hbs hba hbr hg
  go_enter Tryz.func9, Tryz.ntmps9
  have HK0 := Lib.hid (bx1 w 26 #[.int .i64 0, .int .i64 0, .slice none 0 0])
  go_wp2_with fail
  refine (HC.out _ (HG.out.below (by go_grown))).mono ?_
  rintro e w1 ⟨rfl, hb1⟩
  have J1 := Lib.hid (HK0.out.below hb1)
  have B1 := Lib.hid (show Below w.heap.size w w1 from Below.trans (by go_grown) (hb1.mono (by simp)))
  have z1 : w.heap.size < w1.heap.size := J1.out.lt
  clear hb1 HK0
  go_wp2_with fail
  refine (HS.out _ (HG.out.below B1.out)).mono ?_
  rintro e w2 ⟨rfl, hw2⟩
  have K2 : Hid (Blk w2 w1.heap.size 9 (X64 L).toArray) := by subst hw2; exact Blk.new _ _ _
  have b2 : Below w1.heap.size w1 w2 := by subst hw2; go_grown
  have J2 := Lib.hid (J1.out.below b2)
  have B2 := Lib.hid (B1.out.trans (b2.mono B1.out.size))
  have z2 : w1.heap.size < w2.heap.size := K2.out.lt
  clear hw2 b2 J1
  have N0 := Lib.hid (Blk.new w2 26 #[.int .i64 0, .int .i64 0, .slice none 0 0])
  go_wp2_with fail
  refine (HR.out _ (HG.out.below (B2.out.trans (by go_grown)))).mono ?_
  rintro e w3 ⟨m, ok0, rfl, hm, hb3⟩
  have N3 := Lib.hid (N0.out.below hb3)
  have hb3' : Below w2.heap.size w2 w3 := Below.trans (by go_grown) (hb3.mono (by simp))
  have J3 := Lib.hid (J2.out.below hb3')
  have K3 := Lib.hid (K2.out.below hb3')
  have B3 := Lib.hid (B2.out.trans (hb3'.mono B2.out.size))
  have z3 : w2.heap.size < w3.heap.size := N3.out.lt
  have HOK := Lib.hid (rd_ok HCAN.out hm)
  rw [← HLS.out] at HOK
  have n0 := N3.out.cell 0 rfl
  have n1 := N3.out.cell 1 rfl
  have n2 := N3.out.cell 2 rfl
  have g0 := N3.out.frozen 0
  have g1 := N3.out.frozen 1
  have g2 := N3.out.frozen 2
  have n9 : w1.heap.size ≠ w2.heap.size := by omega
  clear hm hb3 hb3' N0 HC HS HR J2 K2
  have HST : Hid (RbAt w3 w2.heap.size (L.length : Int) m (.slice none 0 0) (rdT L 0) ((w3.setCell ⟨w2.heap.size, 1, none⟩ (.int .i64 m)).setCell ⟨w2.heap.size, 0, none⟩ (.int .i64 (L.length : Int)))) :=
    ⟨(N3.out.set_ 1 _).set_ 0 _, World.ownsRow_nil _ _ _ _, grown_setOwn (p := ⟨w2.heap.size, 0, none⟩) (grown_setOwn (p := ⟨w2.heap.size, 1, none⟩) (World.grownBy.refl _ _) _) _, z3⟩
  go_wp2_with fail
  go_loopw [32] (fun i wr => ∃ (k : Nat) (vv : Value), k ≤ L.length ∧ i = .int .i64 (k : Nat) ∧ RbAt w3 w2.heap.size (L.length : Int) m vv (rdT L k) wr) (fun i _ => L.length - (intOf i).toNat)
  case atStart => exact ⟨0, _, Nat.zero_le _, by go_num, HST.out⟩
  case round =>
    clear n0 n1 n2 g0 g1 g2 HST
    obtain ⟨k, vv, hk, rfl, hL⟩ := hrel
    obtain ⟨wi, rfl⟩ : ∃ x : World, x = wr := ⟨_, rfl⟩
    have HL := Lib.hid hL
    obtain ⟨b1, ho, hG, _⟩ := hL
    by_cases hlt : k < L.length
    · obtain ⟨x, hx⟩ : ∃ x, x = L.getD k [] := ⟨_, rfl⟩
      have u0 := K3.out.grown hG (by simpa using n9)
      have u1 := u0.cell k (v := .string (bT x)) (by rw [List.getElem?_toArray, hx]; exact X64_get hlt)
      have u1z := u0.lt
      have hxl := part_le hlt
      rw [← hx] at hxl
      have hxl2 : x.length ≤ 1048576 := by have := HSUM.out; omega
      obtain ⟨cc, wz, kc, hz1, hz2, hcs⟩ := conv_str x wi
      have i1 : (k : Int) < (L.length : Int) := by omega
      have HX := Lib.hid hx
      have HZ := Lib.hid (HL.out.later hz2)
      have HBY : Hid (ByG wi.heap.size x vv wz) := ⟨fun e => by have := (ho.lt _ e).2; omega, hz1, hcs⟩
      have HIZ := Lib.hid hz2.size
      have HWI := hG.size
      have zx := bT_size x
      obtain ⟨bx, hbx⟩ : ∃ bx, bx = bT x := ⟨_, rfl⟩
      rw [← hbx] at kc u1 zx
      have HBX := Lib.hid hbx
      clear hx hxl b1 ho hG hcs hz2 hbx u0
      go_wp2_with fail
      go_loopw [40] (fun i wr => ∃ (j : Nat) (vv : Value), j ≤ x.length ∧ i = .int .i64 (j : Nat) ∧ RbAt w3 w2.heap.size (L.length : Int) m vv (rdJ L k j) wr ∧ ByG wi.heap.size x vv wr) (fun i _ => x.length - (intOf i).toNat)
      case atStart => exact ⟨0, vv, Nat.zero_le _, by go_num, by rw [rdJ_zero]; exact HZ.out, HBY.out⟩
      case round =>
        obtain ⟨j, vv, hj, rfl, hL2, hY⟩ := hrel
        obtain ⟨wj, rfl⟩ : ∃ x : World, x = wr := ⟨_, rfl⟩
        have HL2 := Lib.hid hL2
        have HY := Lib.hid hY
        by_cases hjl : j < x.length
        · have i2 : (j : Int) < (x.length : Int) := by omega
          have c1 := hY.2.2 j hjl
          have c1z := hY.2.1
          by_cases hd : x = [45]
          · have hE : (bx.toList == [45]) = true := by rw [HBX.out, Lib.toList_data, hd]; rfl
            have HJ : Hid (rdJ L k (j + 1) = rdJ L k j) := by
              have e := HX.out ▸ hd
              show _ = _
              rw [rdJ_dash e, rdJ_dash e]
            clear hL2 hY hd
            go_wp2_with fail
            exact ⟨⟨j + 1, vv, by omega, by go_num, by rw [HJ.out]; exact HL2.out, HY.out⟩, by simp [intOf]; omega⟩
          · have hE : (bx.toList == [45]) = false := by
              rw [beq_eq_false_iff_ne, HBX.out, Lib.toList_data]
              intro e
              exact hd (by simpa [bT] using e)
            obtain ⟨c, hc⟩ : ∃ c : Int, c = (x[j].toNat : Int) := ⟨_, rfl⟩
            have c0 : 0 ≤ c ∧ c ≤ 255 := by
              have := UInt8.toNat_lt x[j]
              omega
            obtain ⟨c0, c1'⟩ := c0
            have HJ : Hid (rdJ L k j ++ [((k : Int), c - 97)] = rdJ L k (j + 1)) := by
              have hx := HX.out
              subst hx
              rw [hc]
              exact (rdJ_succ hd hjl).symm
            rw [← hc] at c1
            have e1 : IntKind.i64.wrap c = c := IntWalk.i64_in _ (by omega)
            have e2 : IntKind.i64.wrap (c - 97) = c - 97 := IntWalk.i64_in _ (by omega)
            have hpl : Hid ((rdJ L k j).length ≤ 134217728) := by
              show _ ≤ _
              have h1 := rdJ_le (j := j) hlt
              have h2 := HSUM.out
              omega
            obtain ⟨q1, ho, hG, _⟩ := hL2
            obtain ⟨P, hP⟩ : ∃ P, P = rdJ L k j := ⟨_, rfl⟩
            have HPJ := Lib.hid hP
            rw [← hP] at HL2 HJ hpl ho
            obtain ⟨A, C, rfl⟩ := own_form ho
            have q2 := q1.cell 2 rfl
            have qz := q1.lt
            have hz4 : w3.heap.size ≤ wj.heap.size := hG.size
            clear hY hd hc q1 ho hG hP
            go_wp2_with (at_builtin; refine wpList_appPin4 rfl _ _ rfl w3.heap.size _ P rfl HL2.out.2.1 (k : Int) (c - 97) wj.heap.size rfl rfl hpl.out hz4 ?_; intro v' w6 hown' hb' hg' hv'; obtain ⟨ps', A4, C4', g1, rfl, e0, e3⟩ := HL2.out.app hown' hb'; have f1 := e0.frozen 2; have q2 := e0.cell 2 rfl; have z4 := e0.lt; have E1 := Lib.hid e3; have HGL := Lib.hid (g1.trans HJ.out); have HY6 := Lib.hid (HY.out.app (p := ⟨w2.heap.size, 2, none⟩) hg' hv' (by have := HWI; simp; omega) (.slice A4 ps'.length C4')); clear hown' hb' hg' hv' e0 e3 g1)
            exact ⟨⟨j + 1, _, by omega, by go_num, by rw [← HGL.out]; exact E1.out, HY6.out⟩, by simp [intOf]; omega⟩
        · obtain rfl : j = x.length := by omega
          have HJ : Hid (rdJ L k x.length = rdT L (k + 1)) := rdJ_end (by rw [HX.out])
          have i2 : ¬ (x.length : Int) < (x.length : Int) := by omega
          clear hL2 hY
          go_wp2_with fail
          exact ⟨⟨k + 1, vv, by omega, by go_num, by rw [← HJ.out]; exact HL2.out⟩, by simp [intOf]; omega⟩
    · obtain rfl : k = L.length := by omega
      obtain ⟨Q, hQ⟩ : ∃ Q, Q = rdT L L.length := ⟨_, rfl⟩
      rw [← hQ] at HL ho HOK
      obtain ⟨A, C, rfl⟩ := own_form ho
      have p0 := b1.cell 0 rfl
      have p1 := b1.cell 1 rfl
      have p2 := b1.cell 2 rfl
      have pz := b1.lt
      have HB := Lib.hid (show Below w.heap.size w wi from B3.out.trans (below_of_grown hG (B3.out.size) (fun j hj => by cases hj; omega)))
      have JI := Lib.hid (J3.out.grown hG (by simp; omega))
      have HV := Lib.hid (SlP.of_own ho)
      have HO := Lib.hid (own_mono ho (show w.heap.size + 1 ≤ w3.heap.size by omega))
      have HBL := Lib.hid b1
      have i1 : ¬ (L.length : Int) < (L.length : Int) := by omega
      clear b1 ho hG hQ
      go_wp2_with fail
      refine (ValidBarrel_i _ Q (L.length : Int) m _ (HV.out.below (by go_grown))).mono ?_
      rintro e w5 ⟨rfl, hb5⟩
      have b5 : Below wi.heap.size wi w5 := Below.trans (by go_grown) (hb5.mono (by first | (simp; done) | (simp; omega) | omega))
      have HB5 := Lib.hid (HB.out.trans (b5.mono HB.out.size))
      have J5 := Lib.hid (JI.out.below b5)
      have L5 := Lib.hid (HBL.out.below b5)
      have O5 := Lib.hid (own_below HO.out b5)
      have V5 := Lib.hid (HV.out.below b5)
      clear b5 hb5 p0 p1 p2 pz
      have p0 := L5.out.cell 0 rfl
      have p1 := L5.out.cell 1 rfl
      have p2 := L5.out.cell 2 rfl
      have pz := L5.out.lt
      have r0 := J5.out.cell 0 rfl
      have r1 := J5.out.cell 1 rfl
      have r2 := J5.out.cell 2 rfl
      have rf0 := J5.out.frozen 0
      have rf1 := J5.out.frozen 1
      have rf2 := J5.out.frozen 2
      have rz := J5.out.lt
      cases hbq : brB (L.length : Int) m Q with
      | false =>
        have HRD := Lib.hid (rd_no1 HOK.out hbq)
        clear hbq
        go_wp2
        try simp only [Exit.inBlock, Exit.then]
        refine bodyPost_ret (v := .tuple #[.agg #[.int .i64 0, .int .i64 0, .slice none 0 0], .bool false]) ?_ rfl ?_
        · simp [results, Tryz.results9, go_sem, r0, r1, r2]
        · exact HP.out _ _ ⟨_, 0, 0, [], false, rfl, World.ownsRow_nil _ _ _ _, by have := HB5.out; go_grown, HRD.out⟩
      | true =>
        have H6 := Lib.hid (fun w' (hb : Below w5.heap.size w5 w') => BarrelText_i0 _ Q L.length m w' (V5.out.below hb) hbq)
        have HBQ := Lib.hid hbq
        clear hbq
        go_wp2_with fail
        refine (H6.out _ (by go_grown)).mono ?_
        rintro e w6 ⟨rfl, hb6⟩
        have b6 : Below w5.heap.size w5 w6 := Below.trans (by go_grown) (hb6.mono (by first | (simp; done) | (simp; omega) | omega))
        have HB6 := Lib.hid (HB5.out.trans (b6.mono HB5.out.size))
        have J6 := Lib.hid (J5.out.below b6)
        have L6 := Lib.hid (L5.out.below b6)
        have O6 := Lib.hid (own_below O5.out b6)
        clear b6 hb6 p0 p1 p2 pz r0 r1 r2 rf0 rf1 rf2 rz H6
        have p0 := L6.out.cell 0 rfl
        have p1 := L6.out.cell 1 rfl
        have p2 := L6.out.cell 2 rfl
        have pz := L6.out.lt
        have r0 := J6.out.cell 0 rfl
        have r1 := J6.out.cell 1 rfl
        have r2 := J6.out.cell 2 rfl
        have rf0 := J6.out.frozen 0
        have rf1 := J6.out.frozen 1
        have rf2 := J6.out.frozen 2
        have rz := J6.out.lt
        obtain ⟨bt, hbt⟩ : ∃ bt, bt = bT (txL m Q L.length) := ⟨_, rfl⟩
        rw [← hbt]
        by_cases hq : bt = bs
        · have hE : (bt.toList == bs.toList) = true := by rw [hq]; exact beq_self_eq_true _
          have HRD := Lib.hid (rd_yes (s := s) HBQ.out (hbt.symm.trans (hq.trans HBS.out)))
          clear hq hbt
          go_wp2
          try simp only [Exit.inBlock, Exit.then]
          refine bodyPost_ret (v := .tuple #[.agg #[.int .i64 (L.length : Int), .int .i64 m, .slice A Q.length C], .bool true]) ?_ rfl ?_
          · simp [results, Tryz.results9, go_sem, r0, r1, r2]
          · refine HP.out _ _ ⟨_, L.length, m, Q, true, rfl, own_mono (base := w.heap.size + 1) ?_ (by omega), by have := HB6.out; go_grown, HRD.out⟩
            repeat (refine own_setCell ?_ (by first | (simp; done) | (simp; omega) | omega) _)
            exact O6.out
        · have hE : (bt.toList == bs.toList) = false := by
            rw [beq_eq_false_iff_ne]
            intro e
            rw [Lib.toList_data, Lib.toList_data] at e
            exact hq (ByteArray.ext (Array.toList_inj.1 e))
          have HRD := Lib.hid (rd_no2 HOK.out (fun e => hq (hbt.trans (e.trans HBS.out.symm))))
          clear hq hbt
          go_wp2
          try simp only [Exit.inBlock, Exit.then]
          refine bodyPost_ret (v := .tuple #[.agg #[.int .i64 0, .int .i64 0, .slice none 0 0], .bool false]) ?_ rfl ?_
          · simp [results, Tryz.results9, go_sem, r0, r1, r2]
          · exact HP.out _ _ ⟨_, 0, 0, [], false, rfl, World.ownsRow_nil _ _ _ _, by have := HB6.out; go_grown, HRD.out⟩
end Go.Proofs.YtgaohmbgjjhdbaaGreatDoor
