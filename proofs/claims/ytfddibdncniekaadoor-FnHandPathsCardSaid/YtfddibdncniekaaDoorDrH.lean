/- Hands: what l23DrawWheel, l23DrawState and the draws of texts give: some wheel, some state, some text. -/
import Derived.Test.YtfddibdncniekaaDoorDrE
import Derived.Test.YtfddibdncniekaaDoorApA
import Derived.Test.YtfddibdncniekaaDoorHnR
namespace Go.Proofs.YtfddibdncniekaaDoor
open Go.RowKit
attribute [local go_sem ↓] Go.wp_at_zero Go.wp_at_succ

set_option maxHeartbeats 2000000 in
theorem l20Turn_draw (v : Value) (gs : List Int) (k : Int) (w : World) (hv : Sl w v gs) (h1 : 1 ≤ gs.length) (hl : gs.length ≤ 1000) (h2 : 0 ≤ k) (h3 : k ≤ 1000000) :
    Calls Tryd.prog 87 #[.agg #[v], .int .i64 k] w fun e w' => ∃ v', e = .returned (.agg #[v']) ∧ w'.ownsRow w.heap.size 2 1 v' (manyM gs k gs.length).length (I64 (manyM gs k gs.length)) ∧ Below w.heap.size w w' := by
  have HM := Lib.hid (fun w' (hb : Below w.heap.size w w') => l20Many_any v gs k gs.length w' (hv.below hb) h1 h2 h3 (by omega))
  obtain ⟨A, c, rfl, hac, hac', HA⟩ := hv.open_
  clear hv HA
  go_enter Tryd.func87, Tryd.ntmps87
  obtain ⟨k0, k1⟩ := bx2 w 31 31 #[.slice A gs.length c] #[.slice none 0 0]
  have HK1 := Lib.hid k1
  clear k0 k1
  go_wp2_with fail
  refine (HM.out _ (by go_grown)).mono ?_
  rintro e w1 ⟨v', rfl, ho, hb⟩
  obtain ⟨A1, c1, rfl⟩ := own_form ho
  have k1 := HK1.out.below hb
  have f1 := k1.frozen 0
  have q1 := k1.cell 0 rfl
  have z1 := k1.lt
  have HO := Lib.hid ho
  have HB := Lib.hid (show Below w.heap.size w w1 from Below.trans (by go_grown) (hb.mono (by simp; omega)))
  clear k1 ho hb
  go_wp2
  try simp only [Exit.inBlock, Exit.then]
  refine bodyPost_ret (v := .agg #[.slice A1 (manyM gs k gs.length).length c1]) ?_ rfl ?_
  · simp [results, Tryd.results87, go_sem, *]
  · exact ⟨_, rfl, own_mono (own_setCell HO.out (by first | (simp; done) | (simp; omega)) _) (by first | omega | (simp; done) | (simp; omega)), HB.out.setCell (by simp) _⟩

theorem own_blk_ne {w : World} {base g size n : Nat} {e t : TypeId} {v : Value} {xs : List Value} {cs : Array Value} (h : w.ownsRow base e size v n xs) (hb : Blk w g t cs) (ht : t ≠ e) : some g ≠ v.ownBlock := by
  intro eq
  rcases h.2 with ⟨rfl, _⟩ | ⟨g', cap, cur, rfl, _, hg, _⟩
  · cases eq
  · obtain rfl : g = g' := Option.some.inj eq
    have e1 := Option.some.inj (hb.symm.trans hg)
    injection e1 with _ e2
    exact ht e2
section
variable {w : World} {ops : Array Oper} {o : Oper} {a : Act} {K : Act → World → Prop} {Q : Exit → Act → World → Prop} {E : Prop}
/-- 'append(xs, ys...)' on numbers that the call owns, in a region that draws its order. -/
theorem step_appG (hgd : o.guard = none) (s x : Operand)
    (ho : o.op = .call { callee := .builtin .append, args := #[s, x], argTypes := #[22, 22] })
    (base : Nat) (v : Value) (xs : List Int) (hs : a.eval s = v) (hown : w.ownsRow base 2 1 v xs.length (I64 xs)) (u : Value) (hx : a.eval x = u) (ys : List Int) (hy : Sl w u ys) (zs : List Int) (hz : xs ++ ys = zs) (hn : xs.length ≤ 134217728) (hm : ys.length ≤ 134217728) (hbase : base ≤ w.heap.size)
    (h : ∀ v' w', w'.ownsRow base 2 1 v' zs.length (I64 zs) → Below base w w' → w.grownBy w' v.ownBlock → K (a.put o.dst v') w') :
    if Region.wanted o (yielded ops a.tmps) = true then Oper.wp Tryd.prog o a w K Q else E := by
  obtain ⟨v', w', hr, h2, h3, h4⟩ := run_appG o.type base v xs hown u ys hy zs hz hn hm hbase
  have hw : Region.wanted o (yielded ops a.tmps) = true := by simp [Region.wanted, hgd]
  rw [if_pos hw]
  unfold Oper.wp execOp
  simp only [ho, resolve, invoke, builtin, Sem.run_bind, Sem.run_pure, Result.andThen_ok, List.map_toArray, List.map_cons, List.map_nil, hs, hx, hr]
  exact h v' w' h2 h3 h4
end
theorem own_lit0 {base : Nat} (w : World) (H : Nat) (hH : w.heap.size = H) (hb : base ≤ H) (t : TypeId) : (w.alloc (.cells #[] t)).ownsRow base t 1 (.slice (some ⟨H, 0, none⟩) 0 0) ([] : List Int).length (I64 []) := own_lit w H hH hb t
set_option maxHeartbeats 2000000 in
theorem l00Own_any (g c : Nat) (xs : List Int) (w : World) (hv : Sl w (.slice (some ⟨g, 0, none⟩) xs.length c) xs) (hn : xs.length ≤ 1000) :
    Calls Tryd.prog 90 #[.slice (some ⟨g, 0, none⟩) xs.length c] w fun e w' => ∃ v', e = .returned v' ∧ w'.ownsRow w.heap.size 2 1 v' xs.length (I64 xs) ∧ Below w.heap.size w w' := by
  have HV := Lib.hid (hv.below (w' := w.alloc (.cells #[] 2)) (by go_grown))
  have HO := Lib.hid (own_lit0 (base := w.heap.size) w w.heap.size rfl (Nat.le_refl _) 2)
  clear hv
  go_enter Tryd.func90, Tryd.ntmps90
  go_wp2_with (at_builtin; refine wpList_appG (by first | rfl | (simp [Region.wanted, yielded]; done)) _ _ rfl w.heap.size _ [] rfl HO.out _ rfl xs HV.out xs rfl (by decide) (by omega) (by simp) ?_; intro v' w1 ho hb hg; have HO1 := Lib.hid ho; have HB1 : Hid (Below w.heap.size w w1) := (Below.trans (by go_grown) hb); clear ho hb hg)
  go_ret
  exact ⟨_, rfl, HO1.out, HB1.out⟩

/-- What a draw of a wheel for the hands leaves. -/
def WheelP2 (W w : World) (g : Nat) (vb : Value) (bs : List Int) (k : Nat) (e : Ending) (w' : World) : Prop :=
  ∃ (v : Value) (gs : List Int), e = .returned (.agg #[v]) ∧ w'.ownsRow w.heap.size 2 1 v gs.length (I64 gs) ∧ gs.length ≤ 100 ∧ Src W w' g vb bs k ∧ w.grownBy w' (some g)

set_option maxRecDepth 100000 in
set_option maxHeartbeats 8000000 in
theorem l23DrawWheel_any (W w : World) (g : Nat) (vb : Value) (bs : List Int) (k : Nat) (h : Src W w g vb bs k) (hk : k ≤ 1000) :
    Calls Tryd.prog 66 #[.pointer (some ⟨g, 0, none⟩)] w (WheelP2 W w g vb bs (k + 300)) := by
  have HP : Hid (∀ e w', (∃ (v : Value) (gs : List Int), e = .returned (.agg #[v]) ∧ w'.ownsRow w.heap.size 2 1 v gs.length (I64 gs) ∧ gs.length ≤ 100 ∧ Src W w' g vb bs (k + 300) ∧ w.grownBy w' (some g)) → WheelP2 W w g vb bs (k + 300) e w') := fun e w' h => h
  have hg := h.lt
  have hWg := h.2.1
  have HS := Lib.hid h
  clear h
  go_enter Tryd.func66, Tryd.ntmps66
  go_wp2_with fail
  refine (one_any W _ g vb bs k (HS.out.below (by go_grown)) (by omega) _ (by omega)).mono ?_
  rintro e w1 ⟨c, rfl, hs, hg1⟩
  have HB1 : Hid (Blk w1 w.heap.size 31 #[.slice none 0 0]) := (Blk.new w _ _).grown hg1 (by simp; omega)
  have HG1 : Hid (w.grownBy w1 (some g)) := grown_trans (grown_of_below (by go_grown) _) hg1
  have HS1 := Lib.hid hs
  have z1 : w.heap.size < w1.heap.size := HB1.out.lt
  clear hs hg1
  cases c with
  | true =>
    go_wp2_with fail
    refine (l20Bent_any W _ g vb bs _ HS1.out (by omega)).mono ?_
    rintro e w2 ⟨v, gs, rfl, ho, ⟨_, l2⟩, hs, hg2⟩
    obtain ⟨A, C, rfl⟩ := own_form ho
    have B2 := HB1.out.grown hg2 (by simp; omega)
    have r0 := B2.cell 0 rfl
    have rf0 := B2.frozen 0
    have rz := B2.lt
    have HO := Lib.hid ho
    have HS2 := Lib.hid hs
    have HG2 := Lib.hid (grown_trans HG1.out hg2)
    clear hs hg2 ho B2
    go_wp2
    try simp only [Exit.inBlock, Exit.then]
    refine bodyPost_ret (v := .agg #[.slice A gs.length C]) ?_ rfl ?_
    · simp [results, Tryd.results66, go_sem, *]
    · exact HP.out _ _ ⟨_, gs, rfl, own_mono (own_setCell HO.out (by simp; omega) _) (by omega), by omega, (Src.set' HS2.out (by simp; omega) (by simp; omega) _).mono (by omega), grown_set' HG2.out (by simp) _⟩
  | false =>
    go_wp2_with fail
    refine (HourWheel_draw false _).mono ?_
    rintro e w2 ⟨v, gs, rfl, ho, ⟨l1, l2⟩, hb⟩
    obtain ⟨A, C, rfl⟩ := own_form ho
    have HB2 := Lib.hid (HB1.out.below hb)
    have HG2 := Lib.hid (grown_trans HG1.out (grown_of_below hb _))
    have HS2 := Lib.hid (HS1.out.below hb)
    have HO := Lib.hid ho
    have z2 := hb.size
    clear hb ho
    go_wp2_with fail
    refine (pick_any W _ g vb bs _ HS2.out (by omega) _ (by omega)).mono ?_
    rintro e w3 ⟨x, ⟨x0, x1⟩, rfl, hs, hg3⟩
    have HB3 := Lib.hid (HB2.out.grown hg3 (by simp; omega))
    have HG3 := Lib.hid (grown_trans HG2.out hg3)
    have HO3 := Lib.hid (HO.out.kept hg3 (own_apart HO.out (by omega)))
    have HS3 := Lib.hid hs
    have z3 := hg3.size
    clear hs hg3
    go_wp2_with fail
    refine (l20Turn_draw (.slice A gs.length C) gs x _ (Sl.of_own HO3.out) (by omega) (by omega) x0 (by omega)).mono ?_
    rintro e w4 ⟨v', rfl, ho, hb⟩
    obtain ⟨ds, hds⟩ : ∃ ds, ds = manyM gs x gs.length := ⟨_, rfl⟩
    have hdl : ds.length = gs.length := by rw [hds, manyM_length]
    rw [← hds] at ho
    obtain ⟨bv, cv, rfl, hbv1, hbv2⟩ := ho.form (by omega)
    have hb4 := hb.size
    have da : Below w4.heap.size w4 (w4.alloc (.cells #[.slice (some ⟨bv, 0, none⟩) ds.length cv] 31)) := by go_grown
    have C4 : Hid (Blk (w4.alloc (.cells #[.slice (some ⟨bv, 0, none⟩) ds.length cv] 31)) w4.heap.size 31 #[.slice (some ⟨bv, 0, none⟩) ds.length cv]) := Blk.new _ _ _
    have B4 := Lib.hid ((HB3.out.below hb).below da)
    have O4 := Lib.hid (own_below ho da)
    have S4 := Lib.hid ((HS3.out.below hb).below da)
    have G4 := Lib.hid (grown_trans (grown_trans HG3.out (grown_of_below hb _)) (grown_of_below da _))
    have hd1 : 12 ≤ ds.length := by omega
    have hd2 : ds.length ≤ 24 := by omega
    clear hdl
    clear hb ho da hds HB3 HO3 HS3 HG3 HO HS2 HB2 HG2 HB1 HG1 HS1
    go_wp2_with fail
    refine (pick_any W _ g vb bs _ S4.out (by omega) _ (by omega)).mono ?_
    rintro e w5 ⟨y, ⟨y0, y1⟩, rfl, hs, hg5⟩
    have C5 := Lib.hid (C4.out.grown hg5 (by simp; omega))
    have B5 := Lib.hid (B4.out.grown hg5 (by simp; omega))
    have O5 := Lib.hid (O4.out.kept hg5 (own_apart O4.out (by omega)))
    have S5 := Lib.hid hs
    have G5 := Lib.hid (grown_trans G4.out hg5)
    have q0 := C5.out.cell 0 rfl
    have z5 := C5.out.lt
    have r0 := B5.out.cell 0 rfl
    have rf0 := B5.out.frozen 0
    have rz := B5.out.lt
    have n1 : ¬ bv = w4.heap.size := by omega
    have n2 : ¬ w4.heap.size = bv := by omega
    have n3 : ¬ w.heap.size = w4.heap.size := by omega
    have n4 : ¬ w4.heap.size = w.heap.size := by omega
    have n5 : ¬ bv = w.heap.size := by omega
    have n6 : ¬ w.heap.size = bv := by omega
    clear hs hg5 C4 B4 O4 S4 G4 y1
    by_cases h0 : y = 0
    · subst h0
      go_wp2_with fail
      go_region_held3 (fun w' => w'.cell? ⟨w4.heap.size, 0, none⟩ = some (.slice (some ⟨bv, 0, none⟩) ds.length cv)) (first | (with_reducible exact q0) | (with_reducible exact q6) | (with_reducible exact q7) | ((try dsimp only); (simp [go_sem, *]; done)) | go_keep)
        (first
          | (go_at_call 89; (with_reducible show Calls _ _ #[_, .int .i64 12] _ _); refine (pick_any W _ g vb bs _ (S5.out.below (by first | (with_reducible exact Below.refl _ _) | go_grown)) (by omega) _ (by omega)).mono ?_; rintro e w6 ⟨X, ⟨X0, X1⟩, rfl, hs6, hg6⟩; have G6 : w5.grownBy w6 (some g) := (grown_trans (grown_of_below (by first | (with_reducible exact Below.refl _ _) | go_grown) _) hg6); have HG6 := Lib.hid (grown_trans G5.out G6); have C6 := Lib.hid (C5.out.grown G6 (by first | (simp; done) | (simp; omega) | omega)); have B6 := Lib.hid (B5.out.grown G6 (by first | (simp; done) | (simp; omega) | omega)); have q6 := C6.out.cell 0 rfl; have z6 := C6.out.lt; have O6 := Lib.hid (O5.out.kept G6 (own_apart O5.out (by omega))); have S6 := Lib.hid hs6; clear hs6 hg6 G6)
          | (go_at_call 89; (with_reducible show Calls _ _ #[_, .int .i64 3] _ _); refine (pick_any W _ g vb bs _ (S6.out.below (by first | (with_reducible exact Below.refl _ _) | go_grown)) (by omega) _ (by omega)).mono ?_; rintro e w7 ⟨Z, ⟨Z0, Z1⟩, rfl, hs7, hg7⟩; have G7 : w6.grownBy w7 (some g) := (grown_trans (grown_of_below (by first | (with_reducible exact Below.refl _ _) | go_grown) _) hg7); have HG7 := Lib.hid (grown_trans HG6.out G7); have C7 := Lib.hid (C6.out.grown G7 (by first | (simp; done) | (simp; omega) | omega)); have B7 := Lib.hid (B6.out.grown G7 (by first | (simp; done) | (simp; omega) | omega)); have q7 := C7.out.cell 0 rfl; have z7 := C7.out.lt; have O7 := O6.out.kept G7 (own_apart O6.out (by omega)); have hXn : X.toNat < ds.length := (by omega); have co := O7.cellAt X.toNat (by rw [Nat.mul_one]; exact hXn); rw [I64_get hXn] at co; have fz := O7.frozenAt X.toNat; have T7 := O7.stored X.toNat (.int .i64 (1 + Z)); rw [I64_set'] at T7; have HT := Lib.hid T7.1; have eZ : IntKind.i64.wrap (1 + Z) = 1 + Z := IntWalk.i64_in _ (by omega); have iX : X < (ds.length : Int) := (by omega); have S7 := Lib.hid hs7; have zb7 : bv < w7.heap.size := (O7.lt bv rfl).2; clear T7 O7 hs7 hg7 G7))
      have r7 := B7.out.cell 0 rfl
      have rf7 := B7.out.frozen 0
      have rz7 := B7.out.lt
      go_wp2
      try simp only [Exit.inBlock, Exit.then]
      refine bodyPost_ret (v := .agg #[.slice (some ⟨bv, 0, none⟩) ds.length cv]) ?_ rfl ?_
      · simp [results, Tryd.results66, go_sem, r7]
      · refine HP.out _ _ ⟨_, ds.set X.toNat (1 + Z), rfl, ?_, by rw [List.length_set]; omega, ?_, ?_⟩
        · rw [List.length_set]
          have := HT.out
          exact own_mono (own_setCell this (by simp; omega) _) (by omega)
        · exact (Src.set' (Src.set' S7.out (by simp; omega) (by simp; omega) _) (by simp; omega) (by simp; omega) _).mono (by omega)
        · exact grown_set' (grown_set' HG7.out (by simp; omega) _) (by simp) _
    · have hq0 : (y == 0) = false := by simpa using h0
      by_cases h1 : y = 1
      · subst h1
        go_wp2_with fail
        go_region_law (first
          | (go_simp; go_at_call 90; refine (l00Own_any bv cv ds _ ((Sl.of_own O5.out).below (by first | (with_reducible exact Below.refl _ _) | go_grown)) (by omega)).mono ?_; rintro e w6 ⟨v6, rfl, ho6, hb6⟩; have G6 : Below w5.heap.size w5 w6 := Below.trans (by first | (with_reducible exact Below.refl _ _) | go_grown) (hb6.mono (by first | (simp; done) | (simp; omega) | omega)); have HG6 := Lib.hid (grown_trans G5.out (grown_of_below G6 _)); have C6 := Lib.hid (C5.out.below G6); have B6 := Lib.hid (B5.out.below G6); have q6 := C6.out.cell 0 rfl; have z6 := C6.out.lt; have O6 := Lib.hid (own_below O5.out G6); have S6 := Lib.hid (S5.out.below G6); have V6 := Lib.hid (Sl.of_own ho6); have zz6 := G6.size; clear ho6 hb6 G6)
          | (refine step_appG rfl _ _ (by rfl) w3.heap.size (.slice (some ⟨bv, 0, none⟩) ds.length cv) ds (by rfl) (by first | exact O6.out | exact own_below O6.out (by go_grown)) v6 (by rfl) ds (by first | exact V6.out | exact V6.out.below (by go_grown)) (ds ++ ds) rfl (by omega) (by omega) (by first | omega | (simp; omega)) ?_; intro v7 w7 ho7 hb7 hg7; obtain ⟨A7, c7, rfl⟩ := own_form ho7; have HB67 := Lib.hid (show Below w3.heap.size w6 w7 from Below.trans (by first | (with_reducible exact Below.refl _ _) | go_grown) hb7); have C7 := Lib.hid (C6.out.grown hg7 (fun e => n2 (Option.some.inj e))); have B7 := Lib.hid (B6.out.grown hg7 (fun e => n6 (Option.some.inj e))); have hbk : ∀ k, (Value.slice (some ⟨bv, 0, none⟩) ds.length cv).ownBlock = some k → w3.heap.size ≤ k := (fun k hk => by have e : bv = k := Option.some.inj hk; omega); have S7 := Lib.hid (S6.out.far hg7 (fun k hk => by have := hbk k hk; omega) (fun e => by have := hbk g e.symm; omega)); have HG7 := Lib.hid (grown_new' HG6.out hg7 (fun k hk => by have := hbk k hk; omega)); have q7 := C7.out.cell 0 rfl; have f7 := C7.out.frozen 0; have z7 := C7.out.lt; have O7 := Lib.hid ho7; clear ho7 hb7 hg7))
        all_goals
          have r7 := B7.out.cell 0 rfl
          have rf7 := B7.out.frozen 0
          have rz7 := B7.out.lt
          go_wp2
          try simp only [Exit.inBlock, Exit.then]
          refine bodyPost_ret (v := .agg #[.slice A7 (ds ++ ds).length c7]) ?_ rfl ?_
          · simp [results, Tryd.results66, go_sem, r7]
          · refine HP.out _ _ ⟨_, ds ++ ds, rfl, ?_, by simp; omega, ?_, ?_⟩
            · exact own_mono (own_setCell (own_far O7.out (own_blk_ne O7.out C7.out (by decide)) _) (by simp; omega) _) (by omega)
            · exact (Src.set' (Src.set' S7.out (by simp; omega) (by simp; omega) _) (by simp; omega) (by simp; omega) _).mono (by omega)
            · exact grown_set' (grown_set' HG7.out (by simp; omega) _) (by simp) _
      · have hq1 : (y == 1) = false := by simpa using h1
        go_wp2
        try simp only [Exit.inBlock, Exit.then]
        refine bodyPost_ret (v := .agg #[.slice (some ⟨bv, 0, none⟩) ds.length cv]) ?_ rfl ?_
        · simp [results, Tryd.results66, go_sem, r0]
        · exact HP.out _ _ ⟨_, ds, rfl, own_mono (own_setCell O5.out (by simp; omega) _) (by omega), by omega, (Src.set' S5.out (by simp; omega) (by simp; omega) _).mono (by omega), grown_set' G5.out (by simp) _⟩
end Go.Proofs.YtfddibdncniekaaDoor
