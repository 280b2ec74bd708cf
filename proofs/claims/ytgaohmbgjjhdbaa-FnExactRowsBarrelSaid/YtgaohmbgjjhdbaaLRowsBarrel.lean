/- FnExactRowsBarrel is proved: for all rows the program's RowsBarrel and the reference's return the same barrel and number, the rows are not changed, and what is returned shares no memory with anything else. No condition. -/
import Derived.Test.YtgaohmbgjjhdbaaChRs
import Derived.Test.YtgaohmbgjjhdbaaRwM
import Derived.Test.YtgaohmbgjjhdbaaStBarrel
import Derived.Test.YtgaohmbgjjhdbaaRow4
import Derived.Test.YtgaohmbgjjhdbaaRowF
namespace Go.Proofs.Ytgaohmbgjjhdbaa
open Go.ChangeShapes Go.WideShapes Go.ChangeAt Go.RowKit
attribute [local go_sem ↓] Go.wp_at_zero Go.wp_at_succ
attribute [local go_sem] cell?_grow frozen?_grow

set_option maxRecDepth 100000 in
set_option maxHeartbeats 16000000 in
theorem exactRowsBarrel_walk (v : Value) (R : List (List Int)) (W : World) (hv : RdR W v R) :
    Calls Try.prog 5 #[v] W fun e W' => e = .returned (.bool true) ∧ Below W.heap.size W W' := by
  have HV := Lib.hid hv
  obtain ⟨A, c, rfl, hac, hac'⟩ := hv.form
  clear hv
  by_cases hl : totR R ≤ 1048576
  · obtain ⟨ra, rb, rl, rc, hrl, hi, hs⟩ := RowsBarrel_both R hl
    have HI := Lib.hid hi
    have HS := Lib.hid hs
    have hge : ¬ (1048576 : Int) - (totR R : Int) < 0 := by omega
    have hsm : sumTo R R.length ≤ 1048576 ∧ R.length ≤ 1048576 := by unfold totR at hl; omega
    obtain ⟨hsm1, hsm2⟩ := hsm
    have hge2 : ¬ (1 : Int) + (sumTo R R.length : Int) < 0 := by omega
    have hge3 : ¬ (1 : Int) + 2 * (rl.length : Int) < 0 := by omega
    clear hi hs
    have BW : Hid (Below W.heap.size W W) := Below.refl _ _
    go_enter Try.func5, Try.ntmps5
    go_wp2_with fail
    refine (szRows_fits _ R _ _ HV.out (by omega) (by omega)).mono ?_
    rintro e w' ⟨rfl, rfl⟩
    go_wp2_with fail
    refine (toRows_any _ R _ (HV.out.below BW.out) hl).mono ?_
    rintro e w1 ⟨u1, rfl, how1, hbw1⟩
    have U1 := Lib.hid (RdR.of_rows how1)
    obtain ⟨Aw1, cw1, rfl, _⟩ := how1.form
    replace BW := Lib.hid (BW.out.trans (hbw1.mono BW.out.size))
    have z_w1 := hbw1.size
    clear how1 hbw1
    go_wp2_with fail
    refine (HS.out _ _ U1.out).mono ?_
    rintro e w2 ⟨v0, rfl, ho2, hb2⟩
    obtain ⟨A0, c0, rfl⟩ := own_form ho2
    have O0 := Lib.hid ho2
    have L0 : Hid (∀ b, (Value.slice A0 rl.length c0).ownBlock = some b → b < w2.heap.size) := fun b hb => (ho2.lt b hb).2
    clear U1 ho2
    replace BW := Lib.hid (BW.out.trans (hb2.mono BW.out.size))
    have z_w2 := hb2.size
    clear hb2
    replace O0 := Lib.hid (O0.out.alloc (.cells #[.int .i64 ra, .int .i64 rb, .slice A0 rl.length c0] 33))
    replace BW := Lib.hid (BW.out.alloc BW.out.size (.cells #[.int .i64 ra, .int .i64 rb, .slice A0 rl.length c0] 33))
    have K4 := Lib.hid (Blk.new w2 33 #[.int .i64 ra, .int .i64 rb, .slice A0 rl.length c0])
    have y2 : (w2.alloc (.cells #[.int .i64 ra, .int .i64 rb, .slice A0 rl.length c0] 33)).heap.size = w2.heap.size + 1 := by simp
    go_wp2_with fail
    refine (toRows_any _ R _ (HV.out.below BW.out) hl).mono ?_
    rintro e w3 ⟨u3, rfl, how3, hbw3⟩
    have U3 := Lib.hid (RdR.of_rows how3)
    obtain ⟨Aw3, cw3, rfl, _⟩ := how3.form
    replace K4 := Lib.hid (K4.out.below hbw3)
    replace O0 := Lib.hid (own_below O0.out hbw3)
    replace BW := Lib.hid (BW.out.trans (hbw3.mono BW.out.size))
    have z_w3 := hbw3.size
    have RI := Lib.hid (RowsIn.of how3)
    rw [y2] at RI z_w3
    clear how3 hbw3
    go_wp2_with fail
    refine (HI.out _ _ U3.out).mono ?_
    rintro e w4 ⟨v1, rfl, ho4, hb4⟩
    obtain ⟨A1, c1, rfl⟩ := own_form ho4
    have O1 := Lib.hid ho4
    have L1 : Hid (∀ b, (Value.slice A1 rl.length c1).ownBlock = some b → w3.heap.size ≤ b ∧ b < w4.heap.size) := fun b hb => ho4.lt b hb
    replace RI := Lib.hid (RI.out.below hb4)
    replace U3 := Lib.hid (U3.out.below hb4)
    replace K4 := Lib.hid (K4.out.below hb4)
    replace O0 := Lib.hid (own_below O0.out hb4)
    replace BW := Lib.hid (BW.out.trans (hb4.mono BW.out.size))
    have z_w4 := hb4.size
    clear hb4 ho4
    replace K4 := Lib.hid (K4.out.alloc (.cells #[.int .i64 ra, .int .i64 rb, .slice A1 rl.length c1] 33))
    replace O0 := Lib.hid (O0.out.alloc (.cells #[.int .i64 ra, .int .i64 rb, .slice A1 rl.length c1] 33))
    replace O1 := Lib.hid (O1.out.alloc (.cells #[.int .i64 ra, .int .i64 rb, .slice A1 rl.length c1] 33))
    replace BW := Lib.hid (BW.out.alloc BW.out.size (.cells #[.int .i64 ra, .int .i64 rb, .slice A1 rl.length c1] 33))
    replace RI := Lib.hid (RI.out.below (w' := w4.alloc (.cells #[.int .i64 ra, .int .i64 rb, .slice A1 rl.length c1] 33)) (by go_grown))
    replace U3 := Lib.hid (U3.out.below (w' := w4.alloc (.cells #[.int .i64 ra, .int .i64 rb, .slice A1 rl.length c1] 33)) (by go_grown))
    have K7 := Lib.hid (Blk.new w4 33 #[.int .i64 ra, .int .i64 rb, .slice A1 rl.length c1])
    have y4 : (w4.alloc (.cells #[.int .i64 ra, .int .i64 rb, .slice A1 rl.length c1] 33)).heap.size = w4.heap.size + 1 := by simp
    have k0 := K4.out.cell 0 rfl
    have k1 := K4.out.cell 1 rfl
    have k2 := K4.out.cell 2 rfl
    have kz := K4.out.lt
    have m0 := K7.out.cell 0 rfl
    have m1 := K7.out.cell 1 rfl
    have m2 := K7.out.cell 2 rfl
    have mz := K7.out.lt
    go_wp2_with fail
    refine (eqBarrel_true _ _ rl ra rb _ (SlP.of_own O1.out) (SlP.of_own O0.out)).mono ?_
    rintro e w5 ⟨rfl, hbw5⟩
    replace RI := Lib.hid (RI.out.below hbw5)
    replace U3 := Lib.hid (U3.out.below hbw5)
    replace K4 := Lib.hid (K4.out.below hbw5)
    replace K7 := Lib.hid (K7.out.below hbw5)
    replace O0 := Lib.hid (own_below O0.out hbw5)
    replace O1 := Lib.hid (own_below O1.out hbw5)
    replace BW := Lib.hid (BW.out.trans (hbw5.mono BW.out.size))
    have z_w5 := hbw5.size
    clear hbw5
    rw [y4] at z_w5
    clear k0 k1 k2 kz
    clear m0 m1 m2 mz
    go_wp2_with fail
    refine (toRows_any _ R _ (HV.out.below BW.out) hl).mono ?_
    rintro e w6 ⟨u6, rfl, how6, hbw6⟩
    have U6 := Lib.hid (RdR.of_rows how6)
    obtain ⟨Aw6, cw6, rfl, _⟩ := how6.form
    replace K4 := Lib.hid (K4.out.below hbw6)
    replace K7 := Lib.hid (K7.out.below hbw6)
    replace O0 := Lib.hid (own_below O0.out hbw6)
    replace O1 := Lib.hid (own_below O1.out hbw6)
    replace BW := Lib.hid (BW.out.trans (hbw6.mono BW.out.size))
    have z_w6 := hbw6.size
    replace RI := Lib.hid (RI.out.below hbw6)
    replace U3 := Lib.hid (U3.out.below hbw6)
    clear how6 hbw6
    go_wp2_with fail
    refine (eqRows_b _ _ R _ U3.out U6.out).mono ?_
    rintro e w7 ⟨rfl, hb7⟩
    replace RI := Lib.hid (RI.out.below hb7)
    replace K4 := Lib.hid (K4.out.below hb7)
    replace K7 := Lib.hid (K7.out.below hb7)
    replace O0 := Lib.hid (own_below O0.out hb7)
    replace O1 := Lib.hid (own_below O1.out hb7)
    replace BW := Lib.hid (BW.out.trans (hb7.mono BW.out.size))
    have z_w7 := hb7.size
    clear hb7 U3 U6
    go_wp2_with fail
    refine (markRows_any _ 1 R _ _ _ RI.out (by omega) (by omega) hsm1 hsm2).mono ?_
    rintro e w8 ⟨rfl, hm8⟩
    replace K4 : Hid (Blk w8 w2.heap.size 33 #[.int .i64 ra, .int .i64 rb, .slice A0 rl.length c0]) := (hm8.block K4.out.lt (by omega)).trans K4.out
    replace K7 : Hid (Blk w8 w4.heap.size 33 #[.int .i64 ra, .int .i64 rb, .slice A1 rl.length c1]) := (hm8.block K7.out.lt (by omega)).trans K7.out
    replace O0 := Lib.hid (hm8.own O0.out (fun b hb => by have := L0.out b hb; omega))
    replace O1 := Lib.hid (hm8.own O1.out (fun b hb => by have := L1.out b hb; omega))
    have hW2 := BW.out.size
    replace BW := Lib.hid (BW.out.trans ((hm8.below (by omega)).mono (by omega)))
    have z_w8 := hm8.size
    clear hm8 RI
    have k0 := K4.out.cell 0 rfl
    have k1 := K4.out.cell 1 rfl
    have k2 := K4.out.cell 2 rfl
    have kz := K4.out.lt
    have m0 := K7.out.cell 0 rfl
    have m1 := K7.out.cell 1 rfl
    have m2 := K7.out.cell 2 rfl
    have mz := K7.out.lt
    go_wp2_with fail
    refine (eqBarrel_true _ _ rl ra rb _ (SlP.of_own O1.out) (SlP.of_own O0.out)).mono ?_
    rintro e w9 ⟨rfl, hbw9⟩
    replace K4 := Lib.hid (K4.out.below hbw9)
    replace K7 := Lib.hid (K7.out.below hbw9)
    replace O0 := Lib.hid (own_below O0.out hbw9)
    replace O1 := Lib.hid (own_below O1.out hbw9)
    replace BW := Lib.hid (BW.out.trans (hbw9.mono BW.out.size))
    have z_w9 := hbw9.size
    clear hbw9
    clear k0 k1 k2 kz
    clear m0 m1 m2 mz
    have m0 := K7.out.cell 0 rfl
    have m1 := K7.out.cell 1 rfl
    have m2 := K7.out.cell 2 rfl
    have mz := K7.out.lt
    go_wp2_with fail
    have M := Lib.hid (markBarrel_any _ 1 rl ra rb _ w9 O1.out (by omega) (by omega) (by omega))
    refine M.out.mono ?_
    rintro e w10 ⟨rfl, om, hg⟩
    clear M
    replace K4 := Lib.hid (K4.out.grown hg (fun e => by have := L1.out _ e.symm; omega))
    replace K7 := Lib.hid (K7.out.grown hg (fun e => by have := L1.out _ e.symm; omega))
    replace O0 := Lib.hid (O0.out.kept hg (by
      cases hv : (Value.slice A0 rl.length c0).ownBlock with
      | none => exact Or.inl rfl
      | some b => exact Or.inr fun e => by have h1 := L0.out b hv; have h2 := L1.out b e.symm; omega))
    replace O1 := Lib.hid om
    replace BW := Lib.hid (BW.out.trans (below_of_grown hg (by have := BW.out.size; omega) (fun b hb => by have := L1.out b hb; omega)))
    have z_w10 := hg.size
    clear om hg
    clear m0 m1 m2 mz
    have m0 := K7.out.cell 0 rfl
    have m1 := K7.out.cell 1 rfl
    have m2 := K7.out.cell 2 rfl
    have mz := K7.out.lt
    go_wp2_with fail
    refine (heldBarrel_any _ 1 rl.length ra rb _ (SlP.of_own O1.out) (by omega) (by omega) (by omega)).mono ?_
    rintro e w11 ⟨rfl, hb11⟩
    replace K4 := Lib.hid (K4.out.below hb11)
    replace K7 := Lib.hid (K7.out.below hb11)
    replace O0 := Lib.hid (own_below O0.out hb11)
    replace O1 := Lib.hid (own_below O1.out hb11)
    replace BW := Lib.hid (BW.out.trans (hb11.mono BW.out.size))
    have z_w11 := hb11.size
    clear hb11
    clear m0 m1 m2 mz
    go_wp2_with fail
    refine (toRows_any _ R _ (HV.out.below BW.out) hl).mono ?_
    rintro e w12 ⟨u12, rfl, how12, hbw12⟩
    have U12 := Lib.hid (RdR.of_rows how12)
    obtain ⟨Aw12, cw12, rfl, _⟩ := how12.form
    replace K4 := Lib.hid (K4.out.below hbw12)
    replace K7 := Lib.hid (K7.out.below hbw12)
    replace O0 := Lib.hid (own_below O0.out hbw12)
    replace O1 := Lib.hid (own_below O1.out hbw12)
    replace BW := Lib.hid (BW.out.trans (hbw12.mono BW.out.size))
    have z_w12 := hbw12.size
    clear how12 hbw12
    go_wp2_with fail
    refine (HI.out _ _ U12.out).mono ?_
    rintro e w13 ⟨v2, rfl, ho13, hb13⟩
    obtain ⟨A2, c2, rfl⟩ := own_form ho13
    have O2 := Lib.hid ho13
    replace K4 := Lib.hid (K4.out.below hb13)
    replace K7 := Lib.hid (K7.out.below hb13)
    replace O0 := Lib.hid (own_below O0.out hb13)
    replace O1 := Lib.hid (own_below O1.out hb13)
    replace BW := Lib.hid (BW.out.trans (hb13.mono BW.out.size))
    have z_w13 := hb13.size
    clear hb13 ho13
    replace K4 := Lib.hid (K4.out.alloc (.cells #[.int .i64 ra, .int .i64 rb, .slice A2 rl.length c2] 33))
    replace K7 := Lib.hid (K7.out.alloc (.cells #[.int .i64 ra, .int .i64 rb, .slice A2 rl.length c2] 33))
    replace O0 := Lib.hid (O0.out.alloc (.cells #[.int .i64 ra, .int .i64 rb, .slice A2 rl.length c2] 33))
    replace O1 := Lib.hid (O1.out.alloc (.cells #[.int .i64 ra, .int .i64 rb, .slice A2 rl.length c2] 33))
    replace O2 := Lib.hid (O2.out.alloc (.cells #[.int .i64 ra, .int .i64 rb, .slice A2 rl.length c2] 33))
    replace BW := Lib.hid (BW.out.alloc BW.out.size (.cells #[.int .i64 ra, .int .i64 rb, .slice A2 rl.length c2] 33))
    have K12 := Lib.hid (Blk.new w13 33 #[.int .i64 ra, .int .i64 rb, .slice A2 rl.length c2])
    have k0 := K4.out.cell 0 rfl
    have k1 := K4.out.cell 1 rfl
    have k2 := K4.out.cell 2 rfl
    have kz := K4.out.lt
    have n0 := K12.out.cell 0 rfl
    have n1 := K12.out.cell 1 rfl
    have n2 := K12.out.cell 2 rfl
    have nz := K12.out.lt
    go_wp2_with fail
    refine (eqBarrel_true _ _ rl ra rb _ (SlP.of_own O2.out) (SlP.of_own O0.out)).mono ?_
    rintro e w14 ⟨rfl, hbw14⟩
    replace K4 := Lib.hid (K4.out.below hbw14)
    replace K7 := Lib.hid (K7.out.below hbw14)
    replace K12 := Lib.hid (K12.out.below hbw14)
    replace O0 := Lib.hid (own_below O0.out hbw14)
    replace O1 := Lib.hid (own_below O1.out hbw14)
    replace O2 := Lib.hid (own_below O2.out hbw14)
    replace BW := Lib.hid (BW.out.trans (hbw14.mono BW.out.size))
    have z_w14 := hbw14.size
    clear hbw14
    clear k0 k1 k2 kz
    clear n0 n1 n2 nz
    have m0 := K7.out.cell 0 rfl
    have m1 := K7.out.cell 1 rfl
    have m2 := K7.out.cell 2 rfl
    have mz := K7.out.lt
    go_wp2_with fail
    refine (heldBarrel_any _ 1 rl.length ra rb _ (SlP.of_own O1.out) (by omega) (by omega) (by omega)).mono ?_
    rintro e w15 ⟨rfl, hb15⟩
    go_wp2
    go_ret
    exact ⟨rfl, BW.out.trans (hb15.mono BW.out.size)⟩
  · go_enter Try.func5, Try.ntmps5
    go_wp2_with fail
    refine (szRows_big _ R _ _ HV.out (by omega) (by omega) (by omega)).mono ?_
    rintro e w' ⟨rfl, rfl⟩
    go_wp2
    go_ret
    exact ⟨rfl, Below.refl _ _⟩

set_option maxRecDepth 100000 in
theorem fnExactRowsBarrel_lifted (os : Os) (started : os.Started) (H : Type) (enc : TypeId × Value → H) :
    ReturnsInHanded {} Try.checked os 5 .any (Rows.fnExactRowsBarrelSpec.pre6 enc Try.prog Try.f5 Rows.fnExactRowsBarrelRow.domain false) (Rows.fnExactRowsBarrelSpec.post enc Try.prog Try.f5 false true false false) := by
  refine returnsInHanded_of_change (C := Try.checked) Try.own started (by kernel_rfl) Try.func5
    (ChangeSpec.witness6 (enc := enc) (C := Try.checked) false ⟨#[], #[.slice none 0 0], []⟩ 8 (by kernel_rfl) (by kernel_rfl) (by kernel_rfl) (by kernel_rfl)) ?_
  intro W base args ds gs before hval0 hW hcnd _
  have hval : ∀ (j : Nat) t v, Try.f5.params[j]? = some t → args[j]? = some v → Value.okWide Try.prog W .any base t v := hval0
  have hW' := hW
  have hltB : ∀ x ∈ before, x.block < W.heap.size := fun x hx => hW.lt x hx
  obtain ⟨p, q, hA0, hV, rfl, hfz, hnd⟩ := hW
  have hA : DataW.TrodAll enc Try.prog W 0 (fun _ => true) true Try.f5.params.toList args.toList ds p := hA0
  rw [Try.params5] at hA hval
  obtain ⟨v0, vs0, d0, ds0, p0, q0, hargs, rfl, rfl, h0, r0⟩ := trodAll_cons hA
  obtain ⟨rfl, rfl, rfl⟩ := trodAll_nil r0
  obtain rfl : args = #[v0] := by cases args; simp_all
  clear hA0 hval0 hA hcnd hfz hnd
  have hlt0 : ∀ x ∈ p0, x.block < W.heap.size := fun x hx => hltB x (by simp [hx])
  obtain ⟨a0, n0, c0, rfl⟩ := okWide_slice Try.underlying22 (hval 0 22 v0 rfl rfl)
  obtain ⟨fu0, hf0⟩ := h0
  obtain ⟨R, hR, _⟩ := trod_rows Try.underlying22 Try.underlying60 Try.underlying2 (by kernel_rfl) (by kernel_rfl) hf0 hlt0
  refine (exactRowsBarrel_walk _ R W hR).mono fun e W' ⟨he, hb⟩ => ?_
  subst he
  exact ⟨_, rfl, post_law Try.laidOut hW' rfl rfl (by kernel_rfl) (by kernel_rfl) Try.underlying4 hb⟩

set_option maxHeartbeats 2000000 in
theorem fnExactRowsBarrel_facts : joinedFacts Try.prog 5 Try.f5 Rows.fnExactRowsBarrelSpec Rows.fnExactRowsBarrelRow = true := by
  unfold joinedFacts
  simp only [Bool.and_eq_true]
  repeat' apply And.intro
  all_goals first | with_reducible exact Try.laidOut | with_reducible exact Try.g2 | with_reducible exact Try.g24 | with_reducible exact Try.g25 | (rw [Try.g26]; rfl) | (rw [Try.g27]; rfl) | as_aux_lemma => kernel_rfl
/-- The statement. -/
theorem fnExactRowsBarrel_holds : Rows.FnExactRowsBarrelSaid :=
  OpenClaim.holds_of_wide 5 Try.f5 rfl rfl rfl rfl rfl rfl rfl ⟨rfl, rfl, rfl, rfl, rfl⟩ rfl rfl rfl rfl rfl (by as_aux_lemma => kernel_rfl) Try.func5 fnExactRowsBarrel_facts
    (by as_aux_lemma => exact of_decide_eq_true (by kernel_rfl)) (by as_aux_lemma => unfold Func.isWrapper; rw [if_neg (of_decide_eq_false (by kernel_rfl))]; exact ⟨rfl, rfl⟩)
    (fun os started H enc _ => fnExactRowsBarrel_lifted os started H enc)
#print axioms fnExactRowsBarrel_holds
end Go.Proofs.Ytgaohmbgjjhdbaa
