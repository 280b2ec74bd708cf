/- FnExactValidRackState is proved: for every rack and state the program's ValidRackState and the reference's answer alike, and the rack is not changed. No condition. -/
import Derived.Test.YtipakagmbppagaaRkC
import Derived.Deep.RegionHeld3
namespace Go.Proofs.Ytipakagmbppagaa
open Go.ChangeShapes Go.WideShapes Go.ChangeAt Go.RowKit
attribute [local go_sem ↓] Go.wp_at_zero Go.wp_at_succ

set_option maxHeartbeats 4000000 in
theorem exactValidRackState_walk (v : Value) (ds : List Int) (wn m rd : Int) (W : World) (hv : Sl W v ds) :
    Calls Try.prog 6 #[.agg #[v, .int .i64 wn], .agg #[.int .i64 m, .int .i64 rd]] W fun e W' => e = .returned (.bool true) ∧ Below W.heap.size W W' := by
  by_cases hl : ds.length ≤ 1048576
  · go_enter Try.func6, Try.ntmps6
    have C0 := CtxS.new (wn := wn) (m := m) (rd := rd) hv
    clear hv
    go_wp2_with fail
    refine (szRack_fits v ds wn _ _ C0.sl (by omega) (by omega)).mono ?_
    rintro e w1 ⟨rfl, hb1⟩
    have C1 := C0.step hb1
    have q0 := C1.c0
    have q1 := C1.c1
    have q2 := C1.c2
    have q3 := C1.c3
    clear hb1 C0
    go_wp2_with fail
    go_region_held3 (fun w' => w'.cell? ⟨W.heap.size, 0, none⟩ = some v ∧ w'.cell? ⟨W.heap.size, 1, none⟩ = some (.int .i64 wn) ∧ w'.cell? ⟨W.heap.size + 1, 0, none⟩ = some (.int .i64 m) ∧ w'.cell? ⟨W.heap.size + 1, 1, none⟩ = some (.int .i64 rd)) (first | assumption | go_keep)
      (first
        | (go_at_call 21; refine (toRack_any v ds wn _ C1.drew.sl hl).mono ?_; rintro e w2 ⟨v2, rfl, o2, hb2⟩; have C2 := C1.drew.step hb2; have s2 := Sl.of_own o2; have S2 := C2.all; clear o2 hb2)
        | (go_at_call 32; refine (toRackState_any m rd _).mono ?_; rintro e w3 ⟨rfl, hb3⟩; have C3 := C2.step hb3; have s3 := s2.below hb3; have S3 := C3.all; clear hb3)
        | (go_at_call 31; refine (ValidRackState_s v2 ds wn m rd _ s3).mono ?_; rintro e w4 ⟨rfl, hb4⟩; have C4 := C3.step hb4; have S4 := C4.all; clear hb4))
    clear C1 C2 C3 S2 S3 S4 q0 q1 q2 q3 s2 s3
    have q0 := C4.c0
    have q1 := C4.c1
    go_wp2_with fail
    refine (toRack_any v ds wn _ C4.sl hl).mono ?_
    rintro e w5 ⟨v5, rfl, o5, hb5⟩
    obtain ⟨A5, c5, rfl⟩ := own_form o5
    have C5 := C4.step hb5
    have P5 := CpyR.new (wn := wn) (Sl.of_own o5)
    have C6 := C5.step ((Below.refl _ _).alloc (Nat.le_refl _) (.cells #[.slice A5 ds.length c5, .int .i64 wn] 27))
    have q2 := C5.c2
    have q3 := C5.c3
    have z5 := C5.lt
    have S6 := SState.all C6.drew P5.drew
    clear o5 hb5 q0 q1 C4
    go_wp2_with fail
    go_region_held3 (fun w' => w'.cell? ⟨W.heap.size + 1, 0, none⟩ = some (.int .i64 m) ∧ w'.cell? ⟨W.heap.size + 1, 1, none⟩ = some (.int .i64 rd) ∧ w'.cell? ⟨w5.heap.size, 0, none⟩ = some (.slice A5 ds.length c5) ∧ w'.cell? ⟨w5.heap.size, 1, none⟩ = some (.int .i64 wn)) (first | assumption | go_keep)
      (first
        | (go_at_call 32; refine (toRackState_any m rd _).mono ?_; rintro e w7 ⟨rfl, hb7⟩; have C7 := C6.drew.step hb7; have P7 := P5.drew.step hb7; have S7 := SState.all C7 P7; clear hb7)
        | (go_at_call 33; refine (ValidRackState_i _ ds wn m rd _ P7.2).mono ?_; rintro e w8 ⟨rfl, hb8⟩; have C8 := C7.step hb8; have P8 := P7.step hb8; have S8 := SState.all C8 P8; clear hb8))
    clear C5 C6 C7 P5 P7 S6 S7 S8 q2 q3
    have q0 := C8.c0
    have q1 := C8.c1
    have q2 := P8.c0
    have q3 := P8.c1
    go_wp2_with fail
    go_region_held3 (fun w' => w'.cell? ⟨W.heap.size, 0, none⟩ = some v ∧ w'.cell? ⟨W.heap.size, 1, none⟩ = some (.int .i64 wn) ∧ w'.cell? ⟨w5.heap.size, 0, none⟩ = some (.slice A5 ds.length c5) ∧ w'.cell? ⟨w5.heap.size, 1, none⟩ = some (.int .i64 wn)) (first | assumption | go_keep)
      (first
        | (go_at_call 21; refine (toRack_any v ds wn _ C8.drew.sl hl).mono ?_; rintro e w9 ⟨v9, rfl, o9, hb9⟩; have C9 := C8.drew.step hb9; have P9 := P8.drew.step hb9; have s9 := Sl.of_own o9; have S9 := SRack.all C9.1 P9; clear o9 hb9)
        | (go_at_call 23; refine (eqRack_true _ _ ds wn _ P9.2 s9).mono ?_; rintro e w10 ⟨rfl, hb10⟩; have C10 := C9.step hb10; have S10 := SRack.all C10.1 (P9.step hb10); clear hb10))
    all_goals go_wp2
    all_goals (go_ret; exact ⟨rfl, C10.old⟩)
  · go_enter Try.func6, Try.ntmps6
    have C0 := CtxS.new (wn := wn) (m := m) (rd := rd) hv
    clear hv
    go_wp2_with fail
    refine (szRack_big v ds wn _ _ C0.sl (by omega) (by omega)).mono ?_
    rintro e w1 ⟨rfl, hb1⟩
    go_wp2
    go_ret
    exact ⟨rfl, (C0.step hb1).old⟩

set_option maxRecDepth 100000 in
theorem fnExactValidRackState_lifted (os : Os) (started : os.Started) (H : Type) (enc : TypeId × Value → H) :
    ReturnsInHanded {} Try.checked os 6 .any (Rows.fnExactValidRackStateSpec.pre6 enc Try.prog Try.f6 Rows.fnExactValidRackStateRow.domain false) (Rows.fnExactValidRackStateSpec.post enc Try.prog Try.f6 false true false false) := by
  refine returnsInHanded_of_change (C := Try.checked) Try.own started (by kernel_rfl) Try.func6
    (ChangeSpec.witness6 (enc := enc) (C := Try.checked) false ⟨#[], #[.agg #[.slice none 0 0, .int .i64 0], .agg #[.int .i64 0, .int .i64 0]], []⟩ 8 (by kernel_rfl) (by kernel_rfl) (by kernel_rfl) (by kernel_rfl)) ?_
  intro W base args ds gs before hval0 hW hcnd _
  have hval : ∀ (j : Nat) t v, Try.f6.params[j]? = some t → args[j]? = some v → Value.okWide Try.prog W .any base t v := hval0
  have hW' := hW
  have hltB : ∀ x ∈ before, x.block < W.heap.size := fun x hx => hW.lt x hx
  obtain ⟨p, q, hA0, hV, rfl, hfz, hnd⟩ := hW
  have hA : DataW.TrodAll enc Try.prog W 0 (fun _ => true) true Try.f6.params.toList args.toList ds p := hA0
  rw [Try.params6] at hA hval
  obtain ⟨v0, vs0, d0, ds0, p0, q0, hargs, rfl, rfl, h0, r0⟩ := trodAll_cons hA
  obtain ⟨v1, vs1, d1, ds1, p1, q1, rfl, rfl, rfl, h1, r1⟩ := trodAll_cons r0
  obtain ⟨rfl, rfl, rfl⟩ := trodAll_nil r1
  obtain rfl : args = #[v0, v1] := by cases args; simp_all
  clear hA0 hval0 hA hcnd hfz hnd
  have hlt0 : ∀ x ∈ p0, x.block < W.heap.size := fun x hx => hltB x (by simp [hx])
  have hlt1 : ∀ x ∈ p1, x.block < W.heap.size := fun x hx => hltB x (by simp [hx])
  obtain ⟨u0_0, u0_1, y0_0, y0_1, m0, rfl, rfl, rfl, g0_0, g0_1⟩ := Joins.open_agg2 Try.underlying24 (by kernel_rfl) (by kernel_rfl) (hval 0 24 v0 rfl rfl) h0
  obtain ⟨ds, hds, bds⟩ := trod_sl Try.underlying22 Try.underlying2 (by kernel_rfl) g0_0 (fun x hx => hlt0 x (by simp [hx]))
  obtain ⟨wn, rfl, bwn⟩ := trod_i64 Try.underlying2 g0_1
  obtain ⟨u1_0, u1_1, y1_0, y1_1, m1, rfl, rfl, rfl, g1_0, g1_1⟩ := Joins.open_agg2 Try.underlying43 (by kernel_rfl) (by kernel_rfl) (hval 1 43 v1 rfl rfl) h1
  obtain ⟨m, rfl, bm⟩ := trod_i64 Try.underlying2 g1_0
  obtain ⟨rd, rfl, brd⟩ := trod_i64 Try.underlying2 g1_1
  refine (exactValidRackState_walk _ ds wn m rd W hds).mono fun e W' ⟨he, hb⟩ => ?_
  subst he
  exact ⟨_, rfl, post_law Try.laidOut hW' rfl rfl (by kernel_rfl) (by kernel_rfl) Try.underlying4 hb⟩

set_option maxHeartbeats 2000000 in
theorem fnExactValidRackState_facts : joinedFacts Try.prog 6 Try.f6 Rows.fnExactValidRackStateSpec Rows.fnExactValidRackStateRow = true := by
  unfold joinedFacts
  simp only [Bool.and_eq_true]
  repeat' apply And.intro
  all_goals first | with_reducible exact Try.laidOut | with_reducible exact Try.g2 | with_reducible exact Try.g24 | with_reducible exact Try.g25 | (rw [Try.g26]; rfl) | (rw [Try.g27]; rfl) | as_aux_lemma => kernel_rfl
/-- The statement. -/
theorem fnExactValidRackState_holds : Rows.FnExactValidRackStateSaid :=
  OpenClaim.holds_of_wide 6 Try.f6 rfl rfl rfl rfl rfl rfl rfl ⟨rfl, rfl, rfl, rfl, rfl⟩ rfl rfl rfl rfl rfl (by as_aux_lemma => kernel_rfl) Try.func6 fnExactValidRackState_facts
    (by as_aux_lemma => exact of_decide_eq_true (by kernel_rfl)) (by as_aux_lemma => unfold Func.isWrapper; rw [if_neg (of_decide_eq_false (by kernel_rfl))]; exact ⟨rfl, rfl⟩)
    (fun os started H enc _ => fnExactValidRackState_lifted os started H enc)
#print axioms fnExactValidRackState_holds
end Go.Proofs.Ytipakagmbppagaa
