/- FnExactSnailHour is proved: for every rack and minute the program's SnailHour and the reference's return the same numbers, and the rack is not changed. No condition. -/
import Derived.Test.YtipakagmbppagaaRkC
import Derived.Deep.RegionHeld3
namespace Go.Proofs.Ytipakagmbppagaa
open Go.ChangeShapes Go.WideShapes Go.ChangeAt Go.RowKit
attribute [local go_sem ↓] Go.wp_at_zero Go.wp_at_succ

set_option maxHeartbeats 4000000 in
theorem exactSnailHour_walk (v : Value) (ds : List Int) (wn : Int) (m : Int) (W : World) (hv : Sl W v ds) :
    Calls Try.prog 5 #[.agg #[v, .int .i64 wn], .int .i64 m] W fun e W' => e = .returned (.bool true) ∧ Below W.heap.size W W' := by
  by_cases hl : ds.length ≤ 1048576
  · go_enter Try.func5, Try.ntmps5
    have C0 := CtxR.new (wn := wn) hv
    clear hv
    go_wp2_with fail
    refine (szRack_fits v ds wn _ _ C0.sl (by omega) (by omega)).mono ?_
    rintro e w1 ⟨rfl, hb1⟩
    have C1 := C0.step hb1
    have q0 := C1.c0
    have q1 := C1.c1
    clear hb1 C0
    go_wp2_with fail
    refine (toRack_any v ds wn _ C1.sl hl).mono ?_
    rintro e w2 ⟨v2, rfl, o2, hb2⟩
    have C2 := C1.step hb2
    have s2 := Sl.of_own o2
    clear o2 hb2 q0 q1 C1
    go_wp2_with fail
    refine (SnailHour_s v2 ds wn m _ s2).mono ?_
    rintro e w3 ⟨rfl, hb3⟩
    have C3 := C2.step hb3
    have q0 := C3.c0
    have q1 := C3.c1
    clear hb3 C2 s2
    go_wp2_with fail
    refine (toRack_any v ds wn _ C3.sl hl).mono ?_
    rintro e w4 ⟨v4, rfl, o4, hb4⟩
    obtain ⟨A4, c4, rfl⟩ := own_form o4
    have C4 := C3.step hb4
    have P4 := CpyR.new (wn := wn) (Sl.of_own o4)
    clear o4 hb4 q0 q1 C3
    go_wp2_with fail
    refine (SnailHour_i _ ds wn m _ P4.2).mono ?_
    rintro e w5 ⟨rfl, hb5⟩
    have C5 := C4.step (Below.trans (by go_grown) (hb5.mono (by simp)))
    have P5 := P4.step hb5
    clear hb5 C4 P4
    have q0 := C5.c0
    have q1 := C5.c1
    have q2 := P5.c0
    have q3 := P5.c1
    go_wp2_with fail
    go_region_held3 (fun w' => w'.cell? ⟨W.heap.size, 0, none⟩ = some v ∧ w'.cell? ⟨W.heap.size, 1, none⟩ = some (.int .i64 wn) ∧ w'.cell? ⟨w4.heap.size, 0, none⟩ = some (.slice A4 ds.length c4) ∧ w'.cell? ⟨w4.heap.size, 1, none⟩ = some (.int .i64 wn)) (first | assumption | go_keep)
      (first
        | (go_at_call 21; refine (toRack_any v ds wn _ C5.drew.sl hl).mono ?_; rintro e w6 ⟨v6, rfl, o6, hb6⟩; have C6 := C5.drew.step hb6; have P6 := P5.drew.step hb6; have s6 := Sl.of_own o6; have S6 := SRack.all C6 P6; clear o6 hb6)
        | (go_at_call 23; refine (eqRack_true _ _ ds wn _ P6.2 s6).mono ?_; rintro e w7 ⟨rfl, hb7⟩; have C7 := C6.step hb7; have S7 := SRack.all C7 (P6.step hb7); clear hb7))
    all_goals go_wp2
    all_goals (go_ret; exact ⟨rfl, C7.old⟩)
  · go_enter Try.func5, Try.ntmps5
    have C0 := CtxR.new (wn := wn) hv
    clear hv
    go_wp2_with fail
    refine (szRack_big v ds wn _ _ C0.sl (by omega) (by omega)).mono ?_
    rintro e w1 ⟨rfl, hb1⟩
    go_wp2
    go_ret
    exact ⟨rfl, (C0.step hb1).old⟩

set_option maxRecDepth 100000 in
theorem fnExactSnailHour_lifted (os : Os) (started : os.Started) (H : Type) (enc : TypeId × Value → H) :
    ReturnsInHanded {} Try.checked os 5 .any (Rows.fnExactSnailHourSpec.pre6 enc Try.prog Try.f5 Rows.fnExactSnailHourRow.domain false) (Rows.fnExactSnailHourSpec.post enc Try.prog Try.f5 false true false false) := by
  refine returnsInHanded_of_change (C := Try.checked) Try.own started (by kernel_rfl) Try.func5
    (ChangeSpec.witness6 (enc := enc) (C := Try.checked) false ⟨#[], #[.agg #[.slice none 0 0, .int .i64 0], .int .i64 0], []⟩ 8 (by kernel_rfl) (by kernel_rfl) (by kernel_rfl) (by kernel_rfl)) ?_
  intro W base args ds gs before hval0 hW hcnd _
  have hval : ∀ (j : Nat) t v, Try.f5.params[j]? = some t → args[j]? = some v → Value.okWide Try.prog W .any base t v := hval0
  have hW' := hW
  have hltB : ∀ x ∈ before, x.block < W.heap.size := fun x hx => hW.lt x hx
  obtain ⟨p, q, hA0, hV, rfl, hfz, hnd⟩ := hW
  have hA : DataW.TrodAll enc Try.prog W 0 (fun _ => true) true Try.f5.params.toList args.toList ds p := hA0
  rw [Try.params5] at hA hval
  obtain ⟨v0, vs0, d0, ds0, p0, q0, hargs, rfl, rfl, h0, r0⟩ := trodAll_cons hA
  obtain ⟨v1, vs1, d1, ds1, p1, q1, rfl, rfl, rfl, h1, r1⟩ := trodAll_cons r0
  obtain ⟨rfl, rfl, rfl⟩ := trodAll_nil r1
  obtain rfl : args = #[v0, v1] := by cases args; simp_all
  clear hA0 hval0 hA hcnd hfz hnd
  have hlt0 : ∀ x ∈ p0, x.block < W.heap.size := fun x hx => hltB x (by simp [hx])
  have hlt1 : ∀ x ∈ p1, x.block < W.heap.size := fun x hx => hltB x (by simp [hx])
  obtain ⟨u0_0, u0_1, y0_0, y0_1, m0, rfl, rfl, rfl, g0_0, g0_1⟩ := Joins.open_agg2 Try.underlying24 (by kernel_rfl) (by kernel_rfl) (hval 0 24 v0 rfl rfl) h0
  obtain ⟨ds, hds, bds⟩ := trod_sl Try.underlying22 Try.underlying2 (by kernel_rfl) g0_0 (fun x hx => hlt0 x (by simp [hx]))
  obtain ⟨wn, rfl, bwn⟩ := trod_i64 Try.underlying2 g0_1
  obtain ⟨m, rfl, rfl, rfl, wm⟩ := open_int Try.underlying2 (hval 1 2 v1 rfl rfl) h1
  have bm := i64_of_wf wm
  refine (exactSnailHour_walk _ ds wn m W hds).mono fun e W' ⟨he, hb⟩ => ?_
  subst he
  exact ⟨_, rfl, post_law Try.laidOut hW' rfl rfl (by kernel_rfl) (by kernel_rfl) Try.underlying4 hb⟩

set_option maxHeartbeats 2000000 in
theorem fnExactSnailHour_facts : joinedFacts Try.prog 5 Try.f5 Rows.fnExactSnailHourSpec Rows.fnExactSnailHourRow = true := by
  unfold joinedFacts
  simp only [Bool.and_eq_true]
  repeat' apply And.intro
  all_goals first | with_reducible exact Try.laidOut | with_reducible exact Try.g2 | with_reducible exact Try.g24 | with_reducible exact Try.g25 | (rw [Try.g26]; rfl) | (rw [Try.g27]; rfl) | as_aux_lemma => kernel_rfl
/-- The statement. -/
theorem fnExactSnailHour_holds : Rows.FnExactSnailHourSaid :=
  OpenClaim.holds_of_wide 5 Try.f5 rfl rfl rfl rfl rfl rfl rfl ⟨rfl, rfl, rfl, rfl, rfl⟩ rfl rfl rfl rfl rfl (by as_aux_lemma => kernel_rfl) Try.func5 fnExactSnailHour_facts
    (by as_aux_lemma => exact of_decide_eq_true (by kernel_rfl)) (by as_aux_lemma => unfold Func.isWrapper; rw [if_neg (of_decide_eq_false (by kernel_rfl))]; exact ⟨rfl, rfl⟩)
    (fun os started H enc _ => fnExactSnailHour_lifted os started H enc)
#print axioms fnExactSnailHour_holds
end Go.Proofs.Ytipakagmbppagaa
