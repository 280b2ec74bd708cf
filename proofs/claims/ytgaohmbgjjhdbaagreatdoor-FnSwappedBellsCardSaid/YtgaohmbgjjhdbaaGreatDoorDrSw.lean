/- Chimes: what DrawSwapBells draws: some barrel and some list of bells. -/
import Derived.Test.YtgaohmbgjjhdbaaGreatDoorDrY
import Derived.Test.YtgaohmbgjjhdbaaGreatDoorApA
namespace Go.Proofs.YtgaohmbgjjhdbaaGreatDoor
open Go.RowKit
attribute [local go_sem ↓] Go.wp_at_zero Go.wp_at_succ

theorem own_lit0W {base : Nat} (w : World) (H : Nat) (hH : w.heap.size = H) (hb : base ≤ H) (t : TypeId) : (w.alloc (.cells #[] t)).ownsRow base t 1 (.slice (some ⟨H, 0, none⟩) 0 0) ([] : List Int).length (I64 []) := by
  subst hH
  exact World.ownsRow_lit (base := base) (e := t) (size := 1) w #[] 0 hb (by decide) rfl
set_option maxHeartbeats 2000000 in
theorem l00OwnW (A : Option Addr) (n c : Nat) (xs : List Int) (w : World) (hv : Sl w (.slice A n c) xs) (hn : xs.length ≤ 1000) :
    Calls Tryz.prog 19 #[.slice A n c] w fun e w' => ∃ v', e = .returned v' ∧ w'.ownsRow w.heap.size 2 1 v' xs.length (I64 xs) ∧ Below w.heap.size w w' := by
  have HV := Lib.hid (hv.below (w' := w.alloc (.cells #[] 2)) (by go_grown))
  have HO := Lib.hid (own_lit0W (base := w.heap.size) w w.heap.size rfl (Nat.le_refl _) 2)
  clear hv
  go_enter Tryz.func19, Tryz.ntmps19
  go_wp2_with (at_builtin; refine wpList_appG (by first | rfl | (simp [Region.wanted, yielded]; done)) _ _ rfl w.heap.size _ [] rfl HO.out _ rfl xs HV.out xs rfl (by decide) (by omega) (by simp) ?_; intro v' w1 ho hb hg; have HO1 := Lib.hid ho; have HB1 : Hid (Below w.heap.size w w1) := (Below.trans (by go_grown) hb); clear ho hb hg)
  go_ret
  exact ⟨_, rfl, HO1.out, HB1.out⟩
theorem own_takeW {w : World} {base n c k size : Nat} {e : TypeId} {A : Option Addr} {xs : List Value} (h : w.ownsRow base e size (.slice A n c) n xs) (hk : k ≤ n) : w.ownsRow base e size (.slice A k c) k (xs.take (k * size)) := by
  obtain ⟨h1, h2⟩ := h
  have hm := Nat.mul_le_mul_right size hk
  rcases h2 with ⟨e1, _⟩ | ⟨g, cap, cur, e1, hb, hg, hc, hm', hs, ht⟩
  · injection e1 with e2 e3 e4
    subst e2 e3 e4
    obtain rfl : k = 0 := by omega
    exact ⟨by simp, .inl ⟨rfl, by simp⟩⟩
  · injection e1 with e2 e3 e4
    subst e2 e4
    refine ⟨by rw [List.length_take, h1]; exact Nat.min_eq_left hm, .inr ⟨g, _, cur, rfl, hb, hg, by omega, hm', hs, ?_⟩⟩
    rw [← ht, List.take_take, Nat.min_eq_left hm]
theorem own_takeI {w : World} {base n c k : Nat} {A : Option Addr} {xs : List Int} (h : w.ownsRow base 2 1 (.slice A n c) n (I64 xs)) (hn : xs.length = n) (hk : k ≤ n) : w.ownsRow base 2 1 (.slice A k c) (xs.take k).length (I64 (xs.take k)) := by
  have h1 := own_takeW h hk
  rw [Nat.mul_one] at h1
  have e : (xs.take k).length = k := by rw [List.length_take]; omega
  rw [e]
  simpa [I64] using h1
theorem sl_dropW {w : World} {g n c k : Nat} {xs : List Int} (h : Sl w (.slice (some ⟨g, 0, none⟩) n c) xs) (hk : k ≤ n) : Sl w (.slice (some ⟨g, k, none⟩) (n - k) (c - k)) (xs.drop k) := by
  obtain ⟨A, c', e, h1, h2, h3⟩ := h
  injection e with e1 e2 e3
  subst e1 e2 e3
  refine ⟨_, _, by rw [List.length_drop], by rw [List.length_drop]; omega, by omega, fun h0 => ?_⟩
  rw [I64_length, List.length_drop] at h0
  obtain ⟨b, o, e, hb, hc⟩ := h3 (by rw [I64_length]; omega)
  injection e with e
  injection e with e1 e2 _
  subst e1 e2
  refine ⟨g, k, rfl, hb, fun j hj => ?_⟩
  rw [I64_length, List.length_drop] at hj
  have := hc (j + k) (by rw [I64_length]; omega)
  rw [Nat.zero_add] at this
  rw [show k + j = j + k by omega, this]
  simp [I64, Nat.add_comm]
theorem grown_aboveW {a b c : World} {g B : Nat} (h : a.grownBy b (some g)) (hb : Below B b c) (hB : a.heap.size ≤ B) : a.grownBy c (some g) :=
  ⟨hb.os.trans h.os, hb.tape.trans h.tape, hb.output.trans h.output, Nat.le_trans h.size hb.size, fun i hi hn => (hb.block i (Nat.lt_of_lt_of_le hi hB)).trans (h.block i hi hn)⟩
theorem Src.aboveW {W w w' : World} {g n B : Nat} {v : Value} {bs : List Int} (h : Src W w g v bs n) (hb : Below B w w') (hB : W.heap.size ≤ B) (hg : g < B) : Src W w' g v bs n := by
  obtain ⟨h1, h2, h3, a, s, ha, hs, hk⟩ := h
  exact ⟨h1, h2, ⟨hb.os.trans h3.os, hb.tape.trans h3.tape, hb.output.trans h3.output, Nat.le_trans h3.size hb.size, fun i hi => (hb.block i (Nat.lt_of_lt_of_le hi hB)).trans (h3.block i hi)⟩, a, s, ha, hs, hk.belowB hb hg⟩
theorem I64_setW (xs : List Int) (i : Nat) (x : Int) : (I64 xs).set i (.int .i64 x) = I64 (xs.set i x) := by simp [I64, List.map_set]
theorem own_keptNe {w w' : World} {base n size : Nat} {e : TypeId} {v : Value} {xs : List Value} {row : Option Nat} (h : w.ownsRow base e size v n xs) (hg : w.grownBy w' row) (hne : ∀ b, v.ownBlock = some b → row ≠ some b) : w'.ownsRow base e size v n xs :=
  h.kept hg (by
    cases hv : v.ownBlock with
    | none => exact Or.inl rfl
    | some b => exact Or.inr fun e => hne b hv e.symm)
/-- What a draw of a barrel and a list leaves. -/
def SwapPost (W : World) (e : Ending) (w' : World) : Prop :=
  ∃ (v vo : Value) (st bl : Int) (ps : List (Int × Int)) (os : List Int), e = .returned (.tuple #[.agg #[.int .i64 st, .int .i64 bl, v], vo]) ∧ w'.ownsRow W.heap.size 49 2 v ps.length (P64 ps) ∧ w'.ownsRow W.heap.size 2 1 vo os.length (I64 os) ∧ BentOk st bl ps ∧ os.length ≤ 9 ∧ Below W.heap.size W w'

set_option maxRecDepth 100000 in
set_option maxHeartbeats 8000000 in
theorem DrawSwapBells_any (vb : Value) (bs : List Int) (W : World) (hv : SlB W vb bs) :
    Calls Tryz.prog 5 #[vb] W (SwapPost W) := by
  have HP : Hid (∀ e w', (∃ (v vo : Value) (st bl : Int) (ps : List (Int × Int)) (os : List Int), e = .returned (.tuple #[.agg #[.int .i64 st, .int .i64 bl, v], vo]) ∧ w'.ownsRow W.heap.size 49 2 v ps.length (P64 ps) ∧ w'.ownsRow W.heap.size 2 1 vo os.length (I64 os) ∧ BentOk st bl ps ∧ os.length ≤ 9 ∧ Below W.heap.size W w') → SwapPost W e w') := fun e w' h => h
  have HV := Lib.hid (fun w (hb : Below W.heap.size W w) g (hg : w.heap.size = g) => l00From_c vb bs W w hv hb g hg)
  clear hv
  go_enter Tryz.func5, Tryz.ntmps5
  have HK := Lib.hid (bx1 W 26 #[.int .i64 0, .int .i64 0, .slice none 0 0])
  go_wp2_with fail
  refine (HV.out _ (by go_grown) (W.heap.size + 1) (by simp)).mono ?_
  rintro e w1 ⟨rfl, hs, hb1⟩
  have B1 := Lib.hid (HK.out.below hb1)
  have z1 : W.heap.size + 1 < w1.heap.size := hs.lt
  have S1 := Lib.hid hs
  clear hs hb1 HK HV
  go_wp2_with fail
  refine (l22Bent_any W _ _ vb bs 0 S1.out (by omega)).mono ?_
  rintro e w2 ⟨v, st, bl, ps, rfl, ho, hok, hs, hg2⟩
  obtain ⟨A, C, rfl⟩ := own_form ho
  have B2 := Lib.hid (B1.out.grown hg2 (by first | (simp; done) | (simp; omega) | omega))
  have z2 := hg2.size
  have O2 := Lib.hid (own_mono ho (show W.heap.size + 2 ≤ w1.heap.size by omega))
  have S2 := Lib.hid hs
  have HOK := Lib.hid hok
  obtain ⟨_, ⟨bl0, bl1⟩, _⟩ := hok
  obtain ⟨N, rfl⟩ := Int.eq_ofNat_of_zero_le bl0
  have hN : N ≤ 9 := by omega
  clear hs hg2 B1 ho S1 bl0 bl1
  obtain ⟨w3, hw3⟩ : ∃ w3, w3 = w2.alloc (.cells #[.int .i64 st, .int .i64 (N : Int), .slice A ps.length C] 26) := ⟨_, rfl⟩
  have dw : Below w2.heap.size w2 w3 := by subst hw3; go_grown
  have C3 : Hid (Blk w3 w2.heap.size 26 #[.int .i64 st, .int .i64 (N : Int), .slice A ps.length C]) := by subst hw3; exact Blk.new _ _ _
  have B3 := Lib.hid (B2.out.below dw)
  have O3 := Lib.hid (own_below O2.out dw)
  have S3 := Lib.hid (S2.out.below dw)
  have z3 : w3.heap.size = w2.heap.size + 1 := by subst hw3; simp
  have HW3 := Lib.hid hw3
  clear dw hw3 B2 O2 S2
  have HO0 := Lib.hid (own_lit0W (base := w3.heap.size) w3 w3.heap.size rfl (Nat.le_refl _) 2)
  have HS0 := Lib.hid (S3.out.below (show Below w3.heap.size w3 (w3.alloc (.cells #[] 2)) by go_grown))
  have HG0 : Hid (w3.grownBy (w3.alloc (.cells #[] 2)) (some (W.heap.size + 1))) := grown_of_below (by go_grown) _
  go_wp2_with fail
  go_loopw [6, 7] (fun x i wr => ∃ (k go c : Nat) (os : List Int), k ≤ N ∧ i = .int .i64 (k : Int) ∧ x = .slice (some ⟨go, 0, none⟩) k c ∧ os.length = k ∧ wr.ownsRow w3.heap.size 2 1 (.slice (some ⟨go, 0, none⟩) k c) k (I64 os) ∧ Src W wr (W.heap.size + 1) vb bs (600 + 2 * k) ∧ w3.grownBy wr (some (W.heap.size + 1))) (fun _ i _ => N - (intOf i).toNat)
  case atStart => exact ⟨0, w3.heap.size, 0, [], Nat.zero_le _, by go_num, by rw [z3], rfl, by rw [← HW3.out]; exact HO0.out, by rw [← HW3.out]; exact HS0.out.mono (by omega), by rw [← HW3.out]; exact HG0.out⟩
  case round =>
    clear HO0 HS0 HG0
    obtain ⟨k, go, c, os, hk, rfl, rfl, hos, ho, hS, hG⟩ := hrel
    obtain ⟨wi, rfl⟩ : ∃ x : World, x = wr := ⟨_, rfl⟩
    have C4 := Lib.hid (C3.out.grown hG (by first | (simp; done) | (simp; omega) | omega))
    have q0 := C4.out.cell 0 rfl
    have q1 := C4.out.cell 1 rfl
    have q2 := C4.out.cell 2 rfl
    have zq := C4.out.lt
    have HOS := Lib.hid hos
    have HO := Lib.hid ho
    have HS := Lib.hid hS
    have HG := Lib.hid hG
    have hgo0 := (ho.lt go rfl).1
    have hgo := (ho.lt go rfl).2
    have hkc : k ≤ c := by
      obtain ⟨_, _, e, h1, _⟩ := SlC.of_own ho
      injection e with _ _ e3
      omega
    have zG := hG.size
    clear hos ho hS hG
    by_cases hlt : k < N
    · have i1 : (k : Int) < (N : Int) := by omega
      have ek : IntKind.i64.wrap ((k : Int) + 1) = (k : Int) + 1 := IntWalk.i64_in _ (by omega)
      go_wp2_with fail
      refine (pick_any W _ _ vb bs _ HS.out (by omega) _ (by omega)).mono ?_
      rintro e w4 ⟨y, ⟨y0, y1⟩, rfl, hs, hg4⟩
      obtain ⟨Y, rfl⟩ := Int.eq_ofNat_of_zero_le y0
      have hY : Y ≤ k := by omega
      have iY : (Y : Int) ≤ (k : Int) := by omega
      have iY2 : (Y : Int) ≤ (c : Int) := by omega
      have iK2 : (k : Int) ≤ (c : Int) := by omega
      have O4 := Lib.hid (HO.out.kept hg4 (Or.inr (by simp [Value.ownBlock]; omega)))
      have S4 := Lib.hid hs
      have G4 := Lib.hid (grown_trans HG.out hg4)
      have z4 := hg4.size
      have t1 : ((k : Int) - (Y : Int)).toNat = k - Y := by omega
      have t2 : ((c : Int) - (Y : Int)).toNat = c - Y := by omega
      have HSLO : Hid (Sl w4 (.slice (some ⟨go, 0, none⟩) k c) os) := by
        have h := O4.out
        show SlC w4 _ os.length (I64 os)
        rw [HOS.out]
        exact SlC.of_own h
      clear hs hg4 HO HS HG y0 y1 C4 q0 q1 q2 zq
      obtain ⟨ds, hds⟩ : ∃ ds, ds = os.drop Y := ⟨_, rfl⟩
      have HDS := Lib.hid hds
      have HLD : Hid (ds.length ≤ 1000) := by show _ ≤ _; rw [hds, List.length_drop, HOS.out]; omega
      clear hds
      go_upto_region 8 with fail
      go_cut [9] (fun a9 wr => ∃ A5 c5, a9 = .slice A5 ds.length c5 ∧ wr.ownsRow w4.heap.size 2 1 (.slice A5 ds.length c5) ds.length (I64 ds) ∧ Below w4.heap.size w4 wr)
      case first =>
        by_cases hYc : Y < c
        · have HSD := Lib.hid (HDS.out ▸ sl_dropW (k := Y) HSLO.out hY)
          have i9 : (Y : Int) < (c : Int) := by omega
          have n9 : ¬ c - Y = 0 := by omega
          have n8 : ¬ (c : Int) - (Y : Int) = 0 := by omega
          go_wp2_with fail
          refine (l00OwnW _ _ _ ds w4 HSD.out HLD.out).mono ?_
          rintro e w5 ⟨v5, rfl, ho5, hb5⟩
          obtain ⟨A5, c5, rfl⟩ := own_form ho5
          go_wp2_with fail
          go_meet
          exact ⟨A5, c5, rfl, ho5, hb5⟩
        · obtain rfl : c = Y := by omega
          obtain rfl : k = c := by omega
          have HSD : Hid (Sl w4 (.slice (some ⟨go, 0, none⟩) (k - k) 0) ds) := by
            have e : ds = [] := by rw [HDS.out]; exact List.drop_eq_nil_iff.2 (by rw [HOS.out]; exact Nat.le_refl _)
            show Sl _ _ _
            rw [e, Nat.sub_self]
            exact ⟨_, _, rfl, Nat.le_refl _, Nat.zero_le _, fun h => absurd h (by simp [I64])⟩
          rw [Nat.sub_self] at HSD
          go_wp2_with fail
          refine (l00OwnW _ _ _ ds w4 HSD.out HLD.out).mono ?_
          rintro e w5 ⟨v5, rfl, ho5, hb5⟩
          obtain ⟨A5, c5, rfl⟩ := own_form ho5
          go_wp2_with fail
          go_meet
          exact ⟨A5, c5, rfl, ho5, hb5⟩
      case rest =>
        obtain ⟨w5, rfl⟩ : ∃ x : World, x = wc := ⟨_, rfl⟩
        obtain ⟨A5, c5, rfl, ho5, hb5⟩ := hcut
        have HNE : Hid (∀ b, (Value.slice A5 ds.length c5).ownBlock = some b → b ≠ go) := fun b hb e => by have := (ho5.lt b hb).1; omega
        have R5 := Lib.hid ho5
        have O5 := Lib.hid (own_takeI (own_below O4.out hb5) HOS.out hY)
        have S5 := Lib.hid (S4.out.below hb5)
        have G5 := Lib.hid (grown_trans G4.out (grown_of_below hb5 _))
        have z5 := hb5.size
        have hTL : Hid ((os.take Y).length ≤ 134217728) := by show _ ≤ _; rw [List.length_take, HOS.out]; omega
        have hbz : w3.heap.size ≤ w5.heap.size := by omega
        clear ho5 hb5 O4 S4 G4 HSLO
        go_wp2_with (first
          | (at_builtin; refine wpList_app1g rfl _ _ rfl w3.heap.size _ (os.take Y) rfl O5.out (k : Int) w5.heap.size rfl rfl hTL.out hbz ?_; intro v6 w6 ho6 hb6 hg6; have O6 := Lib.hid ho6; have B6 := Lib.hid hb6; have R6 := Lib.hid (Sl.of_own (own_keptNe R5.out hg6 (fun b hb e => HNE.out b hb (Option.some.inj (show some go = some b from e)).symm))); have z6 := hb6.size; have hbz6 : w3.heap.size ≤ w6.heap.size := (by omega); clear ho6 hb6 hg6)
          | (at_builtin; refine wpList_appG (by first | rfl | (simp [Region.wanted, yielded]; done)) _ _ rfl w3.heap.size _ (os.take Y ++ [(k : Int)]) rfl O6.out _ rfl ds R6.out _ rfl (by rw [List.length_append, List.length_take, HOS.out]; simp; omega) (by have := HLD.out; omega) hbz6 ?_; intro v7 w7 ho7 hb7 hg7; have O7 := Lib.hid ho7; have B7 := Lib.hid hb7; clear ho7 hb7 hg7))
        have hl7 : (os.take Y ++ [(k : Int)] ++ ds).length = k + 1 := by rw [HDS.out]; simp [HOS.out]; omega
        have h7 := O7.out
        rw [hl7] at h7
        obtain ⟨g7, c7, rfl, _⟩ := h7.form (by omega)
        exact ⟨⟨k + 1, g7, c7, _, by omega, by go_num, rfl, hl7, h7, ((S5.out.aboveW B6.out (by omega) (by omega)).aboveW B7.out (by omega) (by omega)).mono (by omega), grown_aboveW (grown_aboveW G5.out B6.out (Nat.le_refl _)) B7.out (Nat.le_refl _)⟩, by simp [intOf]; omega⟩
    · obtain rfl : k = N := by omega
      have O9 := Lib.hid (O3.out.kept HG.out (own_apartB O3.out (by omega)))
      have B9 := Lib.hid (B3.out.grown HG.out (by first | (simp; done) | (simp; omega) | omega))
      have HVB : Hid (∀ b, (Value.slice A ps.length C).ownBlock = some b → b < w3.heap.size) := fun b hb => (O3.out.lt b hb).2
      clear B3 O3 S3 C3
      by_cases hn0 : k = 0
      · subst hn0
        have p0 := B9.out.cell 0 rfl
        have p1 := B9.out.cell 1 rfl
        have p2 := B9.out.cell 2 rfl
        have f0 := B9.out.frozen 0
        have f1 := B9.out.frozen 1
        have f2 := B9.out.frozen 2
        have zp := B9.out.lt
        go_wp2
        try simp only [Exit.inBlock, Exit.then]
        refine bodyPost_ret (v := .tuple #[.agg #[.int .i64 st, .int .i64 0, .slice A ps.length C], .slice (some ⟨go, 0, none⟩) 0 c]) ?_ rfl ?_
        · simp [results, Tryz.results5, go_sem, *]
        · refine HP.out _ _ ⟨_, _, st, 0, ps, os, rfl, own_mono (base := W.heap.size + 1) ?_ (by omega), ?_, HOK.out, by rw [HOS.out]; omega, ?_⟩
          · repeat (refine own_setCell ?_ (by first | (simp; done) | (simp; omega) | omega) _)
            exact own_mono O9.out (by omega)
          · rw [HOS.out]
            refine own_mono (base := W.heap.size + 1) ?_ (by omega)
            repeat (refine own_setCell ?_ (by first | (simp; done) | (simp; omega) | omega) _)
            exact own_mono HO.out (by omega)
          · have hold := HS.out.old
            go_grown
      · have i3 : (0 : Int) < (k : Int) := by omega
        go_wp2_with fail
        refine (one_any W _ _ vb bs _ HS.out (by omega) _ (by omega)).mono ?_
        rintro e w4 ⟨b, rfl, hs, hg4⟩
        have O4 := Lib.hid (HO.out.kept hg4 (Or.inr (by simp [Value.ownBlock]; omega)))
        have P4 := Lib.hid (O9.out.kept hg4 (own_apartB O9.out (by omega)))
        have B4 := Lib.hid (B9.out.grown hg4 (by first | (simp; done) | (simp; omega) | omega))
        have C5 := Lib.hid (C4.out.grown hg4 (by first | (simp; done) | (simp; omega) | omega))
        have S4 := Lib.hid hs
        have z4 := hg4.size
        clear hs hg4 HO HS O9 B9 C4 q0 q1 q2 zq
        have q0 := C5.out.cell 0 rfl
        have q1 := C5.out.cell 1 rfl
        have q2 := C5.out.cell 2 rfl
        have zq := C5.out.lt
        cases b with
        | false =>
          have p0 := B4.out.cell 0 rfl
          have p1 := B4.out.cell 1 rfl
          have p2 := B4.out.cell 2 rfl
          have f0 := B4.out.frozen 0
          have f1 := B4.out.frozen 1
          have f2 := B4.out.frozen 2
          have zp := B4.out.lt
          go_wp2
          try simp only [Exit.inBlock, Exit.then]
          refine bodyPost_ret (v := .tuple #[.agg #[.int .i64 st, .int .i64 (k : Int), .slice A ps.length C], .slice (some ⟨go, 0, none⟩) k c]) ?_ rfl ?_
          · simp [results, Tryz.results5, go_sem, *]
          · refine HP.out _ _ ⟨_, _, st, (k : Int), ps, os, rfl, own_mono (base := W.heap.size + 1) ?_ (by omega), ?_, HOK.out, by rw [HOS.out]; omega, ?_⟩
            · repeat (refine own_setCell ?_ (by first | (simp; done) | (simp; omega) | omega) _)
              exact own_mono P4.out (by omega)
            · rw [HOS.out]
              refine own_mono (base := W.heap.size + 1) ?_ (by omega)
              repeat (refine own_setCell ?_ (by first | (simp; done) | (simp; omega) | omega) _)
              exact own_mono O4.out (by omega)
            · have hold := S4.out.old
              go_grown
        | true =>
          have e2 : IntKind.i64.wrap ((k : Int) + 2) = (k : Int) + 2 := IntWalk.i64_in _ (by omega)
          go_wp2_with fail
          refine (pick_any W _ _ vb bs _ S4.out (by omega) _ (by omega)).mono ?_
          rintro e w5 ⟨y, ⟨y0, y1⟩, rfl, hs, hg5⟩
          have e3 : IntKind.i64.wrap (y - 1) = y - 1 := IntWalk.i64_in _ (by omega)
          have h5 := O4.out.kept hg5 (Or.inr (by simp [Value.ownBlock]; omega))
          have P5 := Lib.hid (P4.out.kept hg5 (own_apartB P4.out (by omega)))
          have B5 := B4.out.grown hg5 (by first | (simp; done) | (simp; omega) | omega)
          have C6 := C5.out.grown hg5 (by first | (simp; done) | (simp; omega) | omega)
          have S5 := Lib.hid hs
          have z5 := hg5.size
          have hs0 := (h5.stored 0 (.int .i64 (y - 1))).1
          have HST := Lib.hid (h5.stored 0 (.int .i64 (y - 1))).2
          rw [I64_setW] at hs0
          have O6 := Lib.hid hs0
          have hc0 : ∃ uo, w5.cell? ⟨go, 0, none⟩ = some uo := ⟨_, (h5.cellAt 0 (by omega)).trans (I64_get (by rw [HOS.out]; omega))⟩
          obtain ⟨uo, hc0⟩ := hc0
          have hf0 := h5.frozenAt 0
          have hz0 : go < w5.heap.size := by omega
          have hn1 : w2.heap.size ≠ go := by omega
          have hn2 : W.heap.size ≠ go := by omega
          have hn3 : go ≠ W.heap.size := by omega
          clear hs hg5 h5 hs0 O4 P4 B4 C5 S4 q0 q1 q2 zq
          have q0 := C6.cell 0 rfl
          have q1 := C6.cell 1 rfl
          have q2 := C6.cell 2 rfl
          have zq := C6.lt
          have p0 := B5.cell 0 rfl
          have p1 := B5.cell 1 rfl
          have p2 := B5.cell 2 rfl
          have f0 := B5.frozen 0
          have f1 := B5.frozen 1
          have f2 := B5.frozen 2
          have zp := B5.lt
          clear B5 C6
          go_wp2
          try simp only [Exit.inBlock, Exit.then]
          refine bodyPost_ret (v := .tuple #[.agg #[.int .i64 st, .int .i64 (k : Int), .slice A ps.length C], .slice (some ⟨go, 0, none⟩) k c]) ?_ rfl ?_
          · simp [results, Tryz.results5, go_sem, *]
          · refine HP.out _ _ ⟨_, _, st, (k : Int), ps, os.set 0 (y - 1), rfl, own_mono (base := W.heap.size + 1) ?_ (by omega), ?_, HOK.out, by rw [List.length_set, HOS.out]; omega, ?_⟩
            · repeat (refine own_setCell ?_ (by first | (simp; done) | (simp; omega) | omega) _)
              exact own_mono (own_keptNe P5.out HST.out (fun b hb e => by have := HVB.out b hb; have e2 : go = b := Option.some.inj e; omega)) (by omega)
            · rw [List.length_set, HOS.out]
              refine own_mono (base := W.heap.size + 1) ?_ (by omega)
              repeat (refine own_setCell ?_ (by first | (simp; done) | (simp; omega) | omega) _)
              exact own_mono O6.out (by omega)
            · have hold := S5.out.old
              go_grown
end Go.Proofs.YtgaohmbgjjhdbaaGreatDoor
