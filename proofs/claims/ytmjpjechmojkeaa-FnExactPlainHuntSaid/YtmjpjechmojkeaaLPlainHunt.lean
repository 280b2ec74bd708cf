/- FnExactPlainHunt is proved: for every number the program's PlainHunt and the reference's return the same rows and the same code, and the rows are memory of their own. No condition. -/
import Derived.Test.YtmjpjechmojkeaaChH
import Derived.Test.YtmjpjechmojkeaaRowF
namespace Go.Proofs.Ytmjpjechmojkeaa
open Go.ChangeShapes Go.WideShapes Go.ChangeAt Go.RowKit
attribute [local go_sem ↓] Go.wp_at_zero Go.wp_at_succ
attribute [local go_sem] cell?_grow frozen?_grow

set_option maxHeartbeats 4000000 in
theorem exactPlainHunt_walk (n : Int) (W : World) :
    Calls Try.prog 8 #[.int .i64 n] W fun e W' => e = .returned (.bool true) ∧ Below W.heap.size W W' := by
  obtain ⟨m, q, L, rc, hm, hq, hl, hi, hs⟩ := PlainHunt_both n
  have HI := Lib.hid hi
  have HS := Lib.hid hs
  have HL := Lib.hid hl
  have hmq : m * q ≤ 16 * 8 := Nat.mul_le_mul hm hq
  have hge : ¬ ((1 + m * q : Nat) : Int) < 0 := by omega
  clear hi hs hl
  go_enter Try.func8, Try.ntmps8
  go_wp2_with fail
  refine (HS.out _).mono ?_
  rintro e w1 ⟨v0, rfl, hR0, hb1⟩
  have R0 := Lib.hid hR0
  have B1 := Lib.hid hb1
  obtain ⟨A0, c0, rfl, _⟩ := hR0.form
  clear hR0 hb1
  go_wp2_with fail
  refine (HI.out _).mono ?_
  rintro e w2 ⟨g0, rfl, hR1, hb2⟩
  have R1 := Lib.hid hR1
  have B2 := Lib.hid hb2
  obtain ⟨A1, c1, rfl, _⟩ := hR1.form
  clear hR1 hb2
  go_wp2_with fail
  refine (eqInt64SS_b _ _ m L _ _ _ R1.out (R0.out.below B2.out) (by omega)).mono ?_
  rintro e w3 ⟨rfl, hb3⟩
  have B3 := Lib.hid hb3
  clear hb3
  go_wp2_with fail
  have z2 := B2.out.size
  have z3 := B3.out.size
  refine (markInt64SS_any _ 1 q m L _ _ (R1.out.below B3.out) HL.out (by omega) (by omega) (by omega) (Nat.le_trans z2 z3)).mono ?_
  rintro e w4 ⟨rfl, hR4, hb4⟩
  have R4 := Lib.hid hR4
  have B4 := Lib.hid hb4
  clear hR4 hb4
  go_wp2_with fail
  refine (heldInt64SS_any _ 1 q m _ _ R4.out (by omega) (by omega) (by omega)).mono ?_
  rintro e w4' ⟨rfl, rfl⟩
  go_wp2_with fail
  refine (HI.out _).mono ?_
  rintro e w5 ⟨h0, rfl, hR5, hb5⟩
  have R5 := Lib.hid hR5
  have B5 := Lib.hid hb5
  obtain ⟨A5, c5, rfl, _⟩ := hR5.form
  clear hR5 hb5
  go_wp2_with fail
  have z4 := B4.out.size
  have B35 : Below w1.heap.size w1 w5 := (B2.out.trans (B3.out.mono z2)).trans (B4.out.trans (B5.out.mono (by omega)))
  refine (eqInt64SS_b _ _ m L _ _ _ R5.out (R0.out.below B35) (by omega)).mono ?_
  rintro e w6 ⟨rfl, hb6⟩
  have B6 := Lib.hid hb6
  have BW := Lib.hid B35
  clear hb6 B35
  go_wp2_with fail
  refine (heldInt64SS_any _ 1 q m _ _ ((R4.out.below B5.out).below B6.out) (by omega) (by omega) (by omega)).mono ?_
  rintro e w6' ⟨rfl, rfl⟩
  go_wp2_with fail
  go_ret
  exact ⟨rfl, B1.out.trans ((BW.out.trans (B6.out.mono BW.out.size)).mono B1.out.size)⟩

set_option maxRecDepth 100000 in
theorem fnExactPlainHunt_lifted (os : Os) (started : os.Started) (H : Type) (enc : TypeId × Value → H) :
    ReturnsInHanded {} Try.checked os 8 .any (Rows.fnExactPlainHuntSpec.pre6 enc Try.prog Try.f8 Rows.fnExactPlainHuntRow.domain false) (Rows.fnExactPlainHuntSpec.post enc Try.prog Try.f8 false true false false) := by
  refine returnsInHanded_of_change (C := Try.checked) Try.own started (by kernel_rfl) Try.func8
    (ChangeSpec.witness6 (enc := enc) (C := Try.checked) false ⟨#[], #[.int .i64 0], []⟩ 8 (by kernel_rfl) (by kernel_rfl) (by kernel_rfl) (by kernel_rfl)) ?_
  intro W base args ds gs before hval0 hW hcnd _
  have hval : ∀ (j : Nat) t v, Try.f8.params[j]? = some t → args[j]? = some v → Value.okWide Try.prog W .any base t v := hval0
  have hW' := hW
  have hltB : ∀ x ∈ before, x.block < W.heap.size := fun x hx => hW.lt x hx
  obtain ⟨p, q, hA0, hV, rfl, hfz, hnd⟩ := hW
  have hA : DataW.TrodAll enc Try.prog W 0 (fun _ => true) true Try.f8.params.toList args.toList ds p := hA0
  rw [Try.params8] at hA hval
  obtain ⟨v0, vs0, d0, ds0, p0, q0, hargs, rfl, rfl, h0, r0⟩ := trodAll_cons hA
  obtain ⟨rfl, rfl, rfl⟩ := trodAll_nil r0
  obtain rfl : args = #[v0] := by cases args; simp_all
  clear hA0 hval0 hA hcnd hfz hnd
  have hlt0 : ∀ x ∈ p0, x.block < W.heap.size := fun x hx => hltB x (by simp [hx])
  obtain ⟨n, rfl, rfl, rfl, wn⟩ := open_int Try.underlying2 (hval 0 2 v0 rfl rfl) h0
  have bn := i64_of_wf wn
  refine (exactPlainHunt_walk n W).mono fun e W' ⟨he, hb⟩ => ?_
  subst he
  exact ⟨_, rfl, post_law Try.laidOut hW' rfl rfl (by kernel_rfl) (by kernel_rfl) Try.underlying4 hb⟩

set_option maxHeartbeats 2000000 in
theorem fnExactPlainHunt_facts : joinedFacts Try.prog 8 Try.f8 Rows.fnExactPlainHuntSpec Rows.fnExactPlainHuntRow = true := by
  unfold joinedFacts
  simp only [Bool.and_eq_true]
  repeat' apply And.intro
  all_goals first | with_reducible exact Try.laidOut | with_reducible exact Try.g2 | with_reducible exact Try.g24 | with_reducible exact Try.g25 | (rw [Try.g26]; rfl) | (rw [Try.g27]; rfl) | as_aux_lemma => kernel_rfl
/-- The statement. -/
theorem fnExactPlainHunt_holds : Rows.FnExactPlainHuntSaid :=
  OpenClaim.holds_of_wide 8 Try.f8 rfl rfl rfl rfl rfl rfl rfl ⟨rfl, rfl, rfl, rfl, rfl⟩ rfl rfl rfl rfl rfl (by as_aux_lemma => kernel_rfl) Try.func8 fnExactPlainHunt_facts
    (by as_aux_lemma => exact of_decide_eq_true (by kernel_rfl)) (by as_aux_lemma => unfold Func.isWrapper; rw [if_neg (of_decide_eq_false (by kernel_rfl))]; exact ⟨rfl, rfl⟩)
    (fun os started H enc _ => fnExactPlainHunt_lifted os started H enc)
#print axioms fnExactPlainHunt_holds
end Go.Proofs.Ytmjpjechmojkeaa
