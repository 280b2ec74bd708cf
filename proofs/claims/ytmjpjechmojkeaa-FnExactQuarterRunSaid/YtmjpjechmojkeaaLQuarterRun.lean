/- FnExactQuarterRun is proved: for every three numbers the program's QuarterRun and the reference's return the same numbers and equal lists, and what it returns shares no memory with what a second call returns. No condition. -/
import Derived.Test.YtmjpjechmojkeaaChQ
import Derived.Test.YtmjpjechmojkeaaRow
namespace Go.Proofs.Ytmjpjechmojkeaa
open Go.ChangeShapes Go.WideShapes Go.ChangeAt Go.RowKit

set_option maxHeartbeats 2000000 in
theorem exactQuarterRun_walk (n q m : Int) (w : World) :
    Calls Try.prog 5 #[.int .i64 n, .int .i64 q, .int .i64 m] w fun e w' => e = .returned (.bool true) ∧ Below w.heap.size w w' := by
  obtain ⟨L, N, c, hl, c1, c2⟩ := QuarterRun_both n q m
  have C1 := Lib.hid c1
  have C2 := Lib.hid c2
  clear c1 c2
  go_enter Try.func5, Try.ntmps5
  go_wp2_with fail
  refine (C1.out _).mono ?_
  rintro e w1 ⟨v1, rfl, own1, b1⟩
  go_wp2_with fail
  refine (C2.out _).mono ?_
  rintro e w2 ⟨v2, rfl, own2, b2⟩
  have s1 : Sl w2 v1 L := (Sl.of_own own1).below b2
  have s2 : Sl w2 v2 L := Sl.of_own own2
  have E1 := eqInt64S_any v2 v1 L L w2 s2 s1
  rw [eqL_self] at E1
  have E1 := Lib.hid E1
  go_wp2_with fail
  refine E1.out.mono ?_
  rintro e w2' ⟨rfl, k1, rfl⟩
  have M := Lib.hid (markInt64S_any v2 1 L _ (w2.drewN k1) (own_drewN own2 k1) (by omega) (by omega) (by omega))
  go_wp2_with fail
  refine M.out.mono ?_
  rintro e w3 ⟨rfl, own3, g3⟩
  have s1' : Sl w3 v1 L := (s1.drewN k1).grown g3 (fun b hb he => by have := own1.lt b hb; have := own2.lt b he.symm; omega)
  have b3 : Below w1.heap.size w1 w3 := (below_drewN b2 k1).grown g3 b2.size (fun k hk => (own2.lt k hk).1)
  have s3 := Sl.of_own own3
  have HD := Lib.hid (heldInt64S_any v2 1 L.length w3 s3 (by omega) (by omega) (by omega))
  go_wp2_with (go_at_call 20; refine HD.out.mono ?_; rintro e w' ⟨rfl, rfl⟩)
  refine (C2.out _).mono ?_
  rintro e w4 ⟨v4, rfl, own4, b4⟩
  have s4 : Sl w4 v4 L := Sl.of_own own4
  have E2 := eqInt64S_any v4 v1 L L w4 s4 (s1'.below b4)
  rw [eqL_self] at E2
  have E2 := Lib.hid E2
  go_wp2_with fail
  refine E2.out.mono ?_
  rintro e w4' ⟨rfl, k2, rfl⟩
  have HD2 := Lib.hid (heldInt64S_any v2 1 L.length (w4.drewN k2) ((s3.below b4).drewN k2) (by omega) (by omega) (by omega))
  go_wp2_with (go_at_call 20; refine HD2.out.mono ?_; rintro e w' ⟨rfl, rfl⟩)
  go_ret
  exact ⟨rfl, below_drewN (b1.trans ((b3.trans (b4.mono b3.size)).mono b1.size)) k2⟩

set_option maxRecDepth 100000 in
theorem fnExactQuarterRun_lifted (os : Os) (started : os.Started) (H : Type) (enc : TypeId × Value → H) :
    ReturnsInHanded {} Try.checked os 5 .any (Rows.fnExactQuarterRunSpec.pre6 enc Try.prog Try.f5 Rows.fnExactQuarterRunRow.domain false) (Rows.fnExactQuarterRunSpec.post enc Try.prog Try.f5 false true false false) := by
  refine returnsInHanded_of_change (C := Try.checked) Try.own started (by kernel_rfl) Try.func5
    (ChangeSpec.witness6 (enc := enc) (C := Try.checked) false ⟨#[], #[.int .i64 0, .int .i64 0, .int .i64 0], []⟩ 8 (by kernel_rfl) (by kernel_rfl) (by kernel_rfl) (by kernel_rfl)) ?_
  intro W base args ds gs before hval0 hW hcnd _
  have hval : ∀ (j : Nat) t v, Try.f5.params[j]? = some t → args[j]? = some v → Value.okWide Try.prog W .any base t v := hval0
  have hW' := hW
  have hltB : ∀ x ∈ before, x.block < W.heap.size := fun x hx => hW.lt x hx
  obtain ⟨p, q, hA0, hV, rfl, hfz, hnd⟩ := hW
  have hA : DataW.TrodAll enc Try.prog W 0 (fun _ => true) true Try.f5.params.toList args.toList ds p := hA0
  rw [Try.params5] at hA hval
  obtain ⟨v0, vs0, d0, ds0, p0, q0, hargs, rfl, rfl, h0, r0⟩ := trodAll_cons hA
  obtain ⟨v1, vs1, d1, ds1, p1, q1, rfl, rfl, rfl, h1, r1⟩ := trodAll_cons r0
  obtain ⟨v2, vs2, d2, ds2, p2, q2, rfl, rfl, rfl, h2, r2⟩ := trodAll_cons r1
  obtain ⟨rfl, rfl, rfl⟩ := trodAll_nil r2
  obtain rfl : args = #[v0, v1, v2] := by cases args; simp_all
  clear hA0 hval0 hA hcnd hfz hnd
  have hlt0 : ∀ x ∈ p0, x.block < W.heap.size := fun x hx => hltB x (by simp [hx])
  have hlt1 : ∀ x ∈ p1, x.block < W.heap.size := fun x hx => hltB x (by simp [hx])
  have hlt2 : ∀ x ∈ p2, x.block < W.heap.size := fun x hx => hltB x (by simp [hx])
  obtain ⟨a, rfl, rfl, rfl, wa⟩ := open_int Try.underlying2 (hval 0 2 v0 rfl rfl) h0
  have ba := i64_of_wf wa
  obtain ⟨b, rfl, rfl, rfl, wb⟩ := open_int Try.underlying2 (hval 1 2 v1 rfl rfl) h1
  have bb := i64_of_wf wb
  obtain ⟨c, rfl, rfl, rfl, wc⟩ := open_int Try.underlying2 (hval 2 2 v2 rfl rfl) h2
  have bc := i64_of_wf wc
  refine (exactQuarterRun_walk a b c W).mono fun e W' ⟨he, hb⟩ => ?_
  subst he
  exact ⟨_, rfl, post_law Try.laidOut hW' rfl rfl (by kernel_rfl) (by kernel_rfl) Try.underlying4 hb⟩

/-- The statement. -/
theorem fnExactQuarterRun_holds : Rows.FnExactQuarterRunSaid :=
  OpenClaim.holds_of_wide 5 Try.f5 rfl rfl rfl rfl rfl rfl rfl ⟨rfl, rfl, rfl, rfl, rfl⟩ rfl rfl rfl rfl rfl (by kernel_rfl) Try.func5 (by kernel_rfl)
    (of_decide_eq_true (by kernel_rfl)) (by unfold Func.isWrapper; first | (rw [if_pos (by decide +kernel)]; kernel_rfl) | (rw [if_neg (by decide +kernel)]; exact ⟨rfl, rfl⟩))
    (fun os started H enc _ => fnExactQuarterRun_lifted os started H enc)
#print axioms fnExactQuarterRun_holds
end Go.Proofs.Ytmjpjechmojkeaa
