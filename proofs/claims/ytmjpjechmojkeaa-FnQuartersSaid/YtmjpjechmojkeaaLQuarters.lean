/- FnQuarters is proved: a chime train is right at the latest after eight quarters, and then stays right; the program's answers are the reference's. No condition. -/
import Derived.Test.YtmjpjechmojkeaaDrQ
import Derived.Test.YtmjpjechmojkeaaF6
import Derived.Test.YtmjpjechmojkeaaRow3
import Derived.Test.YtmjpjechmojkeaaRowF
import Derived.Deep.RegionHeld3
namespace Go.Proofs.Ytmjpjechmojkeaa
open Go.ChangeShapes Go.WideShapes Go.ChangeAt Go.RowKit

theorem ix_qrL (n q : Int) (m : Nat) {j : Nat} (h : j < m) : ix (qrL n q m) j = qsP (qrN n q j) ((q + (j : Int)) % 4) := by
  induction m with
  | zero => omega
  | succ m ih =>
    rw [qrL]
    rcases Nat.lt_or_ge j m with h1 | h1
    · rw [ix_append_left (by rw [qrL_length]; exact h1)]; exact ih h1
    · have : j = m := by omega
      subst this
      rw [ix_append_right (by rw [qrL_length]; exact Nat.le_refl _), qrL_length, Nat.sub_self]; rfl
/-- Behind j quarters: ms misses so far. -/
def MsTo (n q : Int) (j : Nat) (ms : Int) : Prop := ms + qw (qrN n q j) ((q + (j : Int)) % 4) = qw n q ∧ (ms = j ∨ qrN n q j = (q + (j : Int)) % 4) ∧ 0 ≤ ms
theorem qsP_hit {a b : Int} (h : a = b) : qsP a b = b := by
  subst h; unfold qsP; split
  · omega
  · rfl
section
variable {n q ms : Int} {j : Nat}
theorem MsTo.zero (g0 : 0 ≤ q) (g3 : q ≤ 3) : MsTo n q 0 0 := by
  refine ⟨?_, Or.inl rfl, Int.le_refl 0⟩
  have : (q + ((0 : Nat) : Int)) % 4 = q := by omega
  rw [this, qrN]; omega
theorem MsTo.miss (h0 : 0 ≤ n) (h3 : n ≤ 3) (h : MsTo n q j ms) (hm : qsP (qrN n q j) ((q + (j : Int)) % 4) ≠ (q + (j : Int)) % 4) : MsTo n q (j + 1) (ms + 1) ∧ (j : Int) < qw n q := by
  obtain ⟨h1, h2, h4⟩ := h
  have hq0 : 0 ≤ (q + (j : Int)) % 4 := Int.emod_nonneg _ (by decide)
  have hq3 : (q + (j : Int)) % 4 ≤ 3 := by have := Int.emod_lt_of_pos (q + (j : Int)) (show (0 : Int) < 4 by decide); omega
  have hn := qrN_in q h0 h3 j
  have hne : qrN n q j ≠ (q + (j : Int)) % 4 := fun e => hm (qsP_hit e)
  have hs := qw_step hn.1 hn.2 hq0 hq3 hne
  have e1 : (q + ((j + 1 : Nat) : Int)) % 4 = ((q + (j : Int)) % 4 + 1) % 4 := by omega
  have hin := qw_in (qsN_in ((q + (j : Int)) % 4) hn.1 hn.2).1 (qsN_in ((q + (j : Int)) % 4) hn.1 hn.2).2 (show 0 ≤ ((q + (j : Int)) % 4 + 1) % 4 by omega) (by omega)
  have hms : ms = j := by
    rcases h2 with h2 | h2
    · exact h2
    · exact absurd h2 hne
  refine ⟨⟨?_, Or.inl (by omega), by omega⟩, by omega⟩
  rw [e1, qrN]; omega
theorem MsTo.hit (h0 : 0 ≤ n) (h3 : n ≤ 3) (h : MsTo n q j ms) (hm : qsP (qrN n q j) ((q + (j : Int)) % 4) = (q + (j : Int)) % 4) : MsTo n q (j + 1) ms := by
  obtain ⟨h1, h2, h4⟩ := h
  have hn := qrN_in q h0 h3 j
  have he : qrN n q j = (q + (j : Int)) % 4 := by
    unfold qsP at hm
    split at hm <;> omega
  have e1 : (q + ((j + 1 : Nat) : Int)) % 4 = ((q + (j : Int)) % 4 + 1) % 4 := by omega
  have en : qrN n q (j + 1) = (q + ((j + 1 : Nat) : Int)) % 4 := by
    rw [e1, qrN, he]; unfold qsN; split
    · omega
    · rfl
  refine ⟨?_, Or.inr en, h4⟩
  rw [en, qw_same]
  rw [he, qw_same] at h1
  exact h1
theorem MsTo.all (h0 : 0 ≤ n) (h3 : n ≤ 3) (g0 : 0 ≤ q) (g3 : q ≤ 3) (h : MsTo n q 40 ms) : ms = qw n q := by
  obtain ⟨h1, h2, h4⟩ := h
  have hb := qw_in h0 h3 g0 g3
  have hn := qrN_in q h0 h3 40
  have hw := qw_in hn.1 hn.2 (show 0 ≤ (q + ((40 : Nat) : Int)) % 4 by omega) (by omega)
  rcases h2 with h2 | h2
  · omega
  · rw [h2, qw_same] at h1; omega
end
/-- What QuartersWrong and QuarterStep say, in one form. -/
theorem wrong_both (n q : Int) : ∃ r c : Int, (c = 0 → ((0 ≤ n ∧ n ≤ 3) ∧ 0 ≤ q ∧ q ≤ 3) ∧ r = qw n q) ∧ qWrongV n q = .tuple #[.int .i64 r, .int .i64 c] := by
  unfold qWrongV
  by_cases h : inB n 0 3 = true ∧ inB q 0 3 = true
  · rw [if_pos h]; exact ⟨_, _, fun _ => ⟨⟨inB_iff.1 h.1, inB_iff.1 h.2⟩, rfl⟩, rfl⟩
  · rw [if_neg h]; exact ⟨_, _, fun e => absurd e (by decide), rfl⟩
theorem step_both (n q : Int) : ∃ a b c : Int, qStepV n q = .tuple #[.int .i64 a, .int .i64 b, .int .i64 c] := by
  unfold qStepV; split <;> exact ⟨_, _, _, rfl⟩
theorem run40 {n q : Int} (h : (0 ≤ n ∧ n ≤ 3) ∧ 0 ≤ q ∧ q ≤ 3) : ∃ (L : List Int) (y : Int), L.length = 40 ∧ (∀ j, j < 40 → ix L j = qsP (qrN n q j) ((q + (j : Int)) % 4)) ∧
    ∀ w, Calls Try.prog 17 #[.int .i64 n, .int .i64 q, .int .i64 40] w (OwnII L y 0 w) :=
  ⟨qrL n q 40, qrN n q 40, qrL_length n q 40, fun j hj => ix_qrL n q 40 hj, fun w => (QuarterRun_i n q 40 w).mono fun e w' hh => by
    have hok : qrOk n q 40 := ⟨h.1, h.2, by decide, by decide⟩
    rw [QrPost, if_pos hok] at hh; exact hh⟩

set_option maxRecDepth 100000 in
set_option maxHeartbeats 16000000 in
theorem quarters_walk (v : Value) (bs : List Int) (W : World) (hv : SlB W v bs) :
    Calls Try.prog 6 #[v] W fun e W' => e = .returned (.bool true) ∧ Below W.heap.size W W' := by
  have HV := Lib.hid hv
  clear hv
  cases hbig : decide (4096 < bs.length) with
  | true =>
    go_enter Try.func6, Try.ntmps6
    go_wp2_with fail
    refine (f6big_any v bs _ HV.out _ hbig).mono ?_
    rintro e w' ⟨rfl, rfl⟩
    go_wp2
    go_ret
    exact ⟨rfl, Below.refl _ _⟩
  | false =>
    have HBG := Lib.hid hbig
    clear hbig
    go_enter Try.func6, Try.ntmps6
    go_wp2_with fail
    refine (f6big_any v bs _ HV.out _ HBG.out).mono ?_
    rintro e w' ⟨rfl, rfl⟩
    go_wp2_with fail
    refine (DrawQuarterRun_any v bs _ HV.out).mono ?_
    rintro e w1 ⟨n, q, m, rfl, old⟩
    obtain ⟨L, a, c, hL, hrs, hri⟩ := QuarterRun_both n q m
    obtain ⟨r, k, hk0, hw⟩ := wrong_both n q
    obtain ⟨sa, sb, sc, hs⟩ := step_both n q
    have HRI := Lib.hid hri
    have HRS := Lib.hid hrs
    have HW := Lib.hid hw
    have HS := Lib.hid hs
    have HK := Lib.hid hk0
    clear hri hrs hw hs hk0
    go_wp2_with fail
    refine (HRI.out _).mono ?_
    rintro e w2 ⟨v1, rfl, o1, hb⟩
    replace old := grown_again old hb
    obtain ⟨A1, C1, rfl⟩ := own_form o1
    clear hb
    go_wp2_with fail
    refine (HRS.out _).mono ?_
    rintro e w3 ⟨v2, rfl, o2, hb⟩
    replace o1 := own_below o1 hb
    replace old := grown_again old hb
    obtain ⟨A2, C2, rfl⟩ := own_form o2
    clear hb
    go_wp2_with fail
    refine (QuartersWrong_i n q _).mono ?_
    rw [HW.out]
    rintro e w' ⟨rfl, rfl⟩
    go_wp2_with fail
    refine (QuartersWrong_s n q _).mono ?_
    rw [HW.out]
    rintro e w' ⟨rfl, rfl⟩
    go_wp2_with fail
    refine (QuarterStep_i n q _).mono ?_
    rw [HS.out]
    rintro e w' ⟨rfl, rfl⟩
    go_wp2_with fail
    refine (QuarterStep_s n q _).mono ?_
    rw [HS.out]
    rintro e w' ⟨rfl, rfl⟩
    go_wp2_with fail
    refine (f6same_b _ _ L _ (Sl.of_own o1) (Sl.of_own o2)).mono ?_
    rintro e w4 ⟨rfl, hb⟩
    replace old := grown_again old hb
    clear hb o1 o2
    by_cases hk : k = 0
    · obtain ⟨hin, hr⟩ := HK.out hk
      obtain ⟨⟨h0, h3⟩, g0, g3⟩ := hin
      have hqw := qw_in h0 h3 g0 g3
      rw [← hr] at hqw
      obtain ⟨w0, w8⟩ := hqw
      have HR := Lib.hid hr
      obtain ⟨LL, y, hlen, hix, hrun⟩ := run40 ⟨⟨h0, h3⟩, g0, g3⟩
      have HLEN := Lib.hid hlen
      have HIX := Lib.hid hix
      have HRUN := Lib.hid hrun
      subst hk
      clear hr hlen hix hrun
      go_wp2_with fail
      refine (HRUN.out _).mono ?_
      rintro e w5 ⟨v3, rfl, o3, hb⟩
      replace old := grown_again old hb
      obtain ⟨A3, C3, rfl⟩ := own_form o3
      obtain ⟨A4, C4, hv4, hac, hac', HA⟩ := (Sl.of_own o3).open_
      injection hv4 with e1 e2 e3
      subst e1 e3
      clear hb o3 e2
      have hlen := HLEN.out
      go_wp2_with fail
      go_loopw [25, 26] (fun ms i wr => ∃ (j : Nat) (u : Int), j ≤ 40 ∧ i = .int .i64 j ∧ ms = .int .i64 u ∧ Hid (MsTo n q j u) ∧ u ≤ j ∧ 0 ≤ u ∧ wr = w5) (fun _ i _ => 40 - (intOf i).toNat)
      case atStart => exact ⟨0, 0, by omega, rfl, rfl, Lib.hid (MsTo.zero g0 g3), by omega, by omega, rfl⟩
      case round =>
        obtain ⟨j, u, hj, rfl, rfl, HM, hu1, hu2, rfl⟩ := hrel
        by_cases hlt : j < 40
        · obtain ⟨ba, oa, rfl, hba, hca⟩ := HA.out j (by omega)
          have ca := hca j (by omega)
          clear hca HA
          have i1 : (j : Int) < (LL.length : Int) := by omega
          have i2 : j < LL.length := by omega
          by_cases hm : ix LL j = (q + (j : Int)) % 4
          · have hmq : (ix LL j != (q + (j : Int)) % 4) = false := by simp [hm]
            have HM2 := Lib.hid (MsTo.hit h0 h3 HM.out (by rw [← HIX.out j hlt]; exact hm))
            clear hm
            go_wp2_with fail
            go_roundw
            case rel => exact ⟨j + 1, u, by omega, by go_num, rfl, HM2, by omega, by omega, trivial⟩
            case measure => simp [intOf]; omega
          · have hmq : (ix LL j != (q + (j : Int)) % 4) = true := by simp [hm]
            obtain ⟨hm2, hjr⟩ := MsTo.miss h0 h3 HM.out (by rw [← HIX.out j hlt]; exact hm)
            have HM2 := Lib.hid hm2
            rw [← HR.out] at hjr
            clear hm hm2
            go_wp2_with fail
            go_roundw
            case rel => exact ⟨j + 1, u + 1, by omega, by go_num, by go_num, HM2, by omega, by omega, trivial⟩
            case measure => simp [intOf]; omega
        · obtain rfl : j = 40 := by omega
          have hu := MsTo.all h0 h3 g0 g3 HM.out
          rw [← HR.out] at hu
          subst hu
          clear HA
          go_wp2_with fail
          go_ret
          exact ⟨by simp, old⟩
    · have hkq : (k != 0) = true := by simpa using hk
      clear hk
      go_wp2_with fail
      go_ret
      exact ⟨rfl, old⟩

set_option maxRecDepth 100000 in
theorem fnQuarters_lifted (os : Os) (started : os.Started) (H : Type) (enc : TypeId × Value → H) :
    ReturnsInHanded {} Try.checked os 6 .any (Rows.fnQuartersSpec.pre6 enc Try.prog Try.f6 Rows.fnQuartersRow.domain false) (Rows.fnQuartersSpec.post enc Try.prog Try.f6 false true false false) := by
  refine returnsInHanded_of_change (C := Try.checked) Try.own started (by kernel_rfl) Try.func6
    (ChangeSpec.witness6 (enc := enc) (C := Try.checked) false ⟨#[], #[.slice none 0 0], []⟩ 8 (by kernel_rfl) (by kernel_rfl) (by kernel_rfl) (by kernel_rfl)) ?_
  intro W base args ds gs before hval0 hW hcnd _
  have hval : ∀ (j : Nat) t v, Try.f6.params[j]? = some t → args[j]? = some v → Value.okWide Try.prog W .any base t v := hval0
  have hW' := hW
  have hltB : ∀ x ∈ before, x.block < W.heap.size := fun x hx => hW.lt x hx
  obtain ⟨p, q, hA0, hV, rfl, hfz, hnd⟩ := hW
  have hA : DataW.TrodAll enc Try.prog W 0 (fun _ => true) true Try.f6.params.toList args.toList ds p := hA0
  rw [Try.params6] at hA hval
  obtain ⟨v0, vs0, d0, ds0, p0, q0, hargs, rfl, rfl, h0, r0⟩ := trodAll_cons hA
  obtain ⟨rfl, rfl, rfl⟩ := trodAll_nil r0
  obtain rfl : args = #[v0] := by cases args; simp_all
  clear hA0 hval0 hA hcnd hfz hnd
  have hlt0 : ∀ x ∈ p0, x.block < W.heap.size := fun x hx => hltB x (by simp [hx])
  obtain ⟨a0, n0, c0, rfl⟩ := okWide_slice Try.underlying33 (hval 0 33 v0 rfl rfl)
  obtain ⟨fu0, hf0⟩ := h0
  obtain ⟨bs, hbs, _⟩ := trod_bytes Try.underlying33 Try.underlying5 (by kernel_rfl) hf0 hlt0
  refine (quarters_walk _ bs W hbs).mono fun e W' ⟨he, hb⟩ => ?_
  subst he
  exact ⟨_, rfl, post_law Try.laidOut hW' rfl rfl (by kernel_rfl) (by kernel_rfl) Try.underlying4 hb⟩

set_option maxHeartbeats 2000000 in
theorem fnQuarters_facts : joinedFacts Try.prog 6 Try.f6 Rows.fnQuartersSpec Rows.fnQuartersRow = true := by
  unfold joinedFacts
  simp only [Bool.and_eq_true]
  repeat' apply And.intro
  all_goals first | with_reducible exact Try.laidOut | with_reducible exact Try.g2 | with_reducible exact Try.g24 | with_reducible exact Try.g25 | (rw [Try.g26]; rfl) | (rw [Try.g27]; rfl) | as_aux_lemma => kernel_rfl
/-- The statement. -/
theorem fnQuarters_holds : Rows.FnQuartersSaid :=
  OpenClaim.holds_of_wide 6 Try.f6 rfl rfl rfl rfl rfl rfl rfl ⟨rfl, rfl, rfl, rfl, rfl⟩ rfl rfl rfl rfl rfl (by as_aux_lemma => kernel_rfl) Try.func6 fnQuarters_facts
    (by as_aux_lemma => exact of_decide_eq_true (by kernel_rfl)) (by as_aux_lemma => unfold Func.isWrapper; rw [if_neg (of_decide_eq_false (by kernel_rfl))]; exact ⟨rfl, rfl⟩)
    (fun os started H enc _ => fnQuarters_lifted os started H enc)
#print axioms fnQuarters_holds
end Go.Proofs.Ytmjpjechmojkeaa
