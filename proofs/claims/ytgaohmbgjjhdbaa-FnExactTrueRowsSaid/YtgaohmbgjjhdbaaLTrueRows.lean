/- FnExactTrueRows is proved: for all rows the program's TrueRows and the reference's answer alike, and the rows are not changed. No condition. -/
import Derived.Test.YtgaohmbgjjhdbaaChRv
import Derived.Test.YtgaohmbgjjhdbaaRwM
import Derived.Test.YtgaohmbgjjhdbaaRow4
import Derived.Test.YtgaohmbgjjhdbaaRowF
namespace Go.Proofs.Ytgaohmbgjjhdbaa
open Go.ChangeShapes Go.WideShapes Go.ChangeAt Go.RowKit
attribute [local go_sem ↓] Go.wp_at_zero Go.wp_at_succ
attribute [local go_sem] cell?_grow frozen?_grow

set_option maxHeartbeats 4000000 in
theorem exactTrueRows_walk (v : Value) (R : List (List Int)) (W : World) (hv : RdR W v R) :
    Calls Try.prog 3 #[v] W fun e W' => e = .returned (.bool true) ∧ Below W.heap.size W W' := by
  have HV := Lib.hid hv
  obtain ⟨A, c, rfl, hac, hac'⟩ := hv.form
  clear hv
  by_cases hl : totR R ≤ 1048576
  · obtain ⟨rb, hi, hs⟩ := TrueRows_both R hl
    have HI := Lib.hid hi
    have HS := Lib.hid hs
    have hge : ¬ (1048576 : Int) - (totR R : Int) < 0 := by omega
    clear hi hs
    go_enter Try.func3, Try.ntmps3
    go_wp2_with fail
    refine (szRows_fits _ R _ _ HV.out (by omega) (by omega)).mono ?_
    rintro e w' ⟨rfl, rfl⟩
    go_wp2_with fail
    refine (toRows_any _ R _ HV.out hl).mono ?_
    rintro e w1 ⟨u1, rfl, ho1, hb1⟩
    have O1 := Lib.hid (RdR.of_rows ho1)
    have B1 := Lib.hid hb1
    clear ho1 hb1
    go_wp2_with fail
    refine (HS.out _ _ O1.out).mono ?_
    rintro e w2 ⟨rfl, hb2⟩
    have B2 : Hid (Below W.heap.size W w2) := B1.out.trans (hb2.mono B1.out.size)
    clear hb2 B1
    go_wp2_with fail
    refine (toRows_any _ R _ (HV.out.below B2.out) hl).mono ?_
    rintro e w3 ⟨u3, rfl, ho3, hb3⟩
    have O3 := Lib.hid (RdR.of_rows ho3)
    have B3 : Hid (Below W.heap.size W w3) := B2.out.trans (hb3.mono B2.out.size)
    obtain ⟨A3, c3, rfl, _⟩ := O3.out.form
    clear ho3 hb3 B2
    go_wp2_with fail
    refine (HI.out _ _ O3.out).mono ?_
    rintro e w4 ⟨rfl, hb4⟩
    have O4 := Lib.hid (O3.out.below hb4)
    have B4 : Hid (Below W.heap.size W w4) := B3.out.trans (hb4.mono B3.out.size)
    clear hb4 B3
    go_wp2_with fail
    refine (toRows_any _ R _ (HV.out.below B4.out) hl).mono ?_
    rintro e w5 ⟨u5, rfl, ho5, hb5⟩
    have O5 := Lib.hid (RdR.of_rows ho5)
    have O6 := Lib.hid (O4.out.below hb5)
    have B5 : Hid (Below W.heap.size W w5) := B4.out.trans (hb5.mono B4.out.size)
    clear ho5 hb5 B4
    go_wp2_with fail
    refine (eqRows_b _ _ R _ O6.out O5.out).mono ?_
    rintro e w6 ⟨rfl, hb6⟩
    have B6 : Hid (Below W.heap.size W w6) := B5.out.trans (hb6.mono B5.out.size)
    clear hb6
    go_wp2
    go_ret
    exact ⟨rfl, B6.out⟩
  · go_enter Try.func3, Try.ntmps3
    go_wp2_with fail
    refine (szRows_big _ R _ _ HV.out (by omega) (by omega) (by omega)).mono ?_
    rintro e w' ⟨rfl, rfl⟩
    go_wp2
    go_ret
    exact ⟨rfl, Below.refl _ _⟩

set_option maxRecDepth 100000 in
theorem fnExactTrueRows_lifted (os : Os) (started : os.Started) (H : Type) (enc : TypeId × Value → H) :
    ReturnsInHanded {} Try.checked os 3 .any (Rows.fnExactTrueRowsSpec.pre6 enc Try.prog Try.f3 Rows.fnExactTrueRowsRow.domain false) (Rows.fnExactTrueRowsSpec.post enc Try.prog Try.f3 false true false false) := by
  refine returnsInHanded_of_change (C := Try.checked) Try.own started (by kernel_rfl) Try.func3
    (ChangeSpec.witness6 (enc := enc) (C := Try.checked) false ⟨#[], #[.slice none 0 0], []⟩ 8 (by kernel_rfl) (by kernel_rfl) (by kernel_rfl) (by kernel_rfl)) ?_
  intro W base args ds gs before hval0 hW hcnd _
  have hval : ∀ (j : Nat) t v, Try.f3.params[j]? = some t → args[j]? = some v → Value.okWide Try.prog W .any base t v := hval0
  have hW' := hW
  have hltB : ∀ x ∈ before, x.block < W.heap.size := fun x hx => hW.lt x hx
  obtain ⟨p, q, hA0, hV, rfl, hfz, hnd⟩ := hW
  have hA : DataW.TrodAll enc Try.prog W 0 (fun _ => true) true Try.f3.params.toList args.toList ds p := hA0
  rw [Try.params3] at hA hval
  obtain ⟨v0, vs0, d0, ds0, p0, q0, hargs, rfl, rfl, h0, r0⟩ := trodAll_cons hA
  obtain ⟨rfl, rfl, rfl⟩ := trodAll_nil r0
  obtain rfl : args = #[v0] := by cases args; simp_all
  clear hA0 hval0 hA hcnd hfz hnd
  have hlt0 : ∀ x ∈ p0, x.block < W.heap.size := fun x hx => hltB x (by simp [hx])
  obtain ⟨a0, n0, c0, rfl⟩ := okWide_slice Try.underlying22 (hval 0 22 v0 rfl rfl)
  obtain ⟨fu0, hf0⟩ := h0
  obtain ⟨R, hR, _⟩ := trod_rows Try.underlying22 Try.underlying60 Try.underlying2 (by kernel_rfl) (by kernel_rfl) hf0 hlt0
  refine (exactTrueRows_walk _ R W hR).mono fun e W' ⟨he, hb⟩ => ?_
  subst he
  exact ⟨_, rfl, post_law Try.laidOut hW' rfl rfl (by kernel_rfl) (by kernel_rfl) Try.underlying4 hb⟩

set_option maxHeartbeats 2000000 in
theorem fnExactTrueRows_facts : joinedFacts Try.prog 3 Try.f3 Rows.fnExactTrueRowsSpec Rows.fnExactTrueRowsRow = true := by
  unfold joinedFacts
  simp only [Bool.and_eq_true]
  repeat' apply And.intro
  all_goals first | with_reducible exact Try.laidOut | with_reducible exact Try.g2 | with_reducible exact Try.g24 | with_reducible exact Try.g25 | (rw [Try.g26]; rfl) | (rw [Try.g27]; rfl) | as_aux_lemma => kernel_rfl
/-- The statement. -/
theorem fnExactTrueRows_holds : Rows.FnExactTrueRowsSaid :=
  OpenClaim.holds_of_wide 3 Try.f3 rfl rfl rfl rfl rfl rfl rfl ⟨rfl, rfl, rfl, rfl, rfl⟩ rfl rfl rfl rfl rfl (by as_aux_lemma => kernel_rfl) Try.func3 fnExactTrueRows_facts
    (by as_aux_lemma => exact of_decide_eq_true (by kernel_rfl)) (by as_aux_lemma => unfold Func.isWrapper; rw [if_neg (of_decide_eq_false (by kernel_rfl))]; exact ⟨rfl, rfl⟩)
    (fun os started H enc _ => fnExactTrueRows_lifted os started H enc)
#print axioms fnExactTrueRows_holds
end Go.Proofs.Ytgaohmbgjjhdbaa
