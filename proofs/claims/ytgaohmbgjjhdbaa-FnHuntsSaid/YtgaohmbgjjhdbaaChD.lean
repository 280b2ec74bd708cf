/- Chimes: what a barrel plays in some steps, in the program and in the reference. -/
import Derived.Test.YtgaohmbgjjhdbaaChB
namespace Go.Proofs.Ytgaohmbgjjhdbaa
open Go.RowKit
attribute [local go_sem ↓] Go.wp_at_zero Go.wp_at_succ

theorem own_litP {base : Nat} (w : World) (H : Nat) (hH : w.heap.size = H) (hb : base ≤ H) (t : TypeId) : (w.alloc (.cells #[] t)).ownsRow base t 2 (.slice (some ⟨H, 0, none⟩) 0 0) 0 [] := by
  subst hH
  exact World.ownsRow_lit w #[] 0 hb (Nat.zero_le _) rfl
def plX (t : Nat) (L : List Int) : List (Int × Int) := L.map fun b => ((t : Int), b)
def sAt (st : Nat) (f : Int) (t : Nat) : Nat := ((f + (t : Int)) % (st : Int)).toNat
/-- What is played in the first t steps. -/
def plA (ps : List (Int × Int)) (st : Nat) (f : Int) : Nat → List (Int × Int)
  | 0 => []
  | t + 1 => plA ps st f t ++ plX t (bA ps (sAt st f t) ps.length)
def spI (ps : List (Int × Int)) (st : Nat) (f : Int) (t k : Nat) : List (Int × Int) := plA ps st f t ++ plX t (bA ps (sAt st f t) k)
def imI (ps : List (Int × Int)) (st : Nat) (f : Int) (t j : Nat) : List (Int × Int) := plA ps st f t ++ plX t ((bA ps (sAt st f t) ps.length).take j)
section
variable {ps : List (Int × Int)} {st : Nat} {f : Int} {t k j : Nat}
theorem sAt_lt (h : 1 ≤ st) : sAt st f t < st := by
  have h1 := Int.emod_nonneg (f + (t : Int)) (show (st : Int) ≠ 0 by omega)
  have h2 := Int.emod_lt_of_pos (f + (t : Int)) (show 0 < (st : Int) by omega)
  unfold sAt; omega
theorem sAt_eq (h : 1 ≤ st) : ((sAt st f t : Nat) : Int) = (f + (t : Int)) % (st : Int) := by
  have h1 := Int.emod_nonneg (f + (t : Int)) (show (st : Int) ≠ 0 by omega)
  unfold sAt; omega
theorem spI_zero : spI ps st f t 0 = plA ps st f t := by simp [spI, bA, plX]
theorem spI_yes (h : (pi ps k).1 = ((sAt st f t : Nat) : Int)) : spI ps st f t (k + 1) = spI ps st f t k ++ [((t : Int), (pi ps k).2)] := by
  rw [spI, spI, bA, if_pos h]; simp [plX]
theorem spI_no (h : ¬ (pi ps k).1 = ((sAt st f t : Nat) : Int)) : spI ps st f t (k + 1) = spI ps st f t k := by rw [spI, spI, bA, if_neg h]
theorem spI_end : spI ps st f t ps.length = plA ps st f (t + 1) := rfl
theorem imI_zero : imI ps st f t 0 = plA ps st f t := by simp [imI, plX]
theorem imI_succ (h : j < (bA ps (sAt st f t) ps.length).length) : imI ps st f t (j + 1) = imI ps st f t j ++ [((t : Int), ix (bA ps (sAt st f t) ps.length) j)] := by
  rw [imI, imI, take_succ_ix h]; simp [plX]
theorem imI_end : imI ps st f t (bA ps (sAt st f t) ps.length).length = plA ps st f (t + 1) := by rw [imI, List.take_length]; rfl
theorem plA_length (h : ps.length ≤ 128) : (plA ps st f t).length ≤ 128 * t := by
  induction t with
  | zero => simp [plA]
  | succ t ih =>
    have := bA_length ps (sAt st f t) ps.length
    rw [plA, List.length_append, plX, List.length_map]; omega
theorem spI_length (h : ps.length ≤ 128) (hk : k ≤ ps.length) : (spI ps st f t k).length ≤ 128 * t + 128 := by
  have h1 := bA_length ps (sAt st f t) k
  have h2 := plA_length (st := st) (f := f) (t := t) h
  rw [spI, List.length_append, plX, List.length_map]; omega
theorem imI_length (h : ps.length ≤ 128) : (imI ps st f t j).length ≤ 128 * t + 128 := by
  have h1 := bA_length ps (sAt st f t) ps.length
  have h2 := plA_length (st := st) (f := f) (t := t) h
  rw [imI, List.length_append, plX, List.length_map, List.length_take]; omega
end
set_option maxHeartbeats 2000000 in
theorem PlayBarrel_i1 (v : Value) (ps : List (Int × Int)) (st bl f n : Int) (w : World) (hv : SlP w v ps) (hs : brB st bl ps = false) :
    Calls Try.prog 27 #[.agg #[.int .i64 st, .int .i64 bl, v], .int .i64 f, .int .i64 n] w fun e w' => ∃ v', e = .returned (.tuple #[v', .int .i64 1]) ∧ w'.ownsRow w.heap.size 62 2 v' ([] : List (Int × Int)).length (P64 ([] : List (Int × Int))) ∧ Below w.heap.size w w' := by
  have H1 := Lib.hid (fun w' (hb : Below w.heap.size w w') => ValidBarrel_i _ ps st bl w' (hv.below hb))
  have HB := Lib.hid hs
  clear hv hs
  go_enter Try.func27, Try.ntmps27
  have HK0 := Lib.hid (bx1 w 33 #[.int .i64 st, .int .i64 bl, v])
  go_wp2_with fail
  refine (H1.out _ (by go_grown)).mono ?_
  rintro e w1 ⟨rfl, hb1⟩
  rw [HB.out]
  have J0 := Lib.hid (HK0.out.below hb1)
  have q0 := J0.out.cell 0 rfl
  have q1 := J0.out.cell 1 rfl
  have q2 := J0.out.cell 2 rfl
  have z0 := J0.out.lt
  have B1 : Below w.heap.size w w1 := Below.trans (by go_grown) (hb1.mono (by first | (simp; done) | (simp; omega) | omega))
  clear hb1 HK0
  go_wp2
  go_ret2
  exact ⟨_, rfl, World.ownsRow_nil _ _ _ _, B1⟩

set_option maxHeartbeats 2000000 in
theorem PlayBarrel_s1 (v : Value) (ps : List (Int × Int)) (st bl f n : Int) (w : World) (hv : SlP w v ps) (hs : brB st bl ps = false) :
    Calls Try.prog 28 #[.agg #[.int .i64 st, .int .i64 bl, v], .int .i64 f, .int .i64 n] w fun e w' => ∃ v', e = .returned (.tuple #[v', .int .i64 1]) ∧ w'.ownsRow w.heap.size 62 2 v' ([] : List (Int × Int)).length (P64 ([] : List (Int × Int))) ∧ Below w.heap.size w w' := by
  have H1 := Lib.hid (fun w' (hb : Below w.heap.size w w') => l22Ok_s _ ps st bl w' (hv.below hb))
  have HB := Lib.hid hs
  clear hv hs
  go_enter Try.func28, Try.ntmps28
  have HK0 := Lib.hid (bx1 w 33 #[.int .i64 st, .int .i64 bl, v])
  go_wp2_with fail
  refine (H1.out _ (by go_grown)).mono ?_
  rintro e w1 ⟨rfl, hb1⟩
  rw [HB.out]
  have J0 := Lib.hid (HK0.out.below hb1)
  have q0 := J0.out.cell 0 rfl
  have q1 := J0.out.cell 1 rfl
  have q2 := J0.out.cell 2 rfl
  have z0 := J0.out.lt
  have B1 : Below w.heap.size w w1 := Below.trans (by go_grown) (hb1.mono (by first | (simp; done) | (simp; omega) | omega))
  clear hb1 HK0
  go_wp2
  go_ret2
  exact ⟨_, rfl, World.ownsRow_nil _ _ _ _, B1⟩

set_option maxHeartbeats 2000000 in
theorem PlayBarrel_i2 (v : Value) (ps : List (Int × Int)) (st bl f n : Int) (w : World) (hv : SlP w v ps) (hs : brB st bl ps = true) (hf : inB f 0 (st - 1) = false) :
    Calls Try.prog 27 #[.agg #[.int .i64 st, .int .i64 bl, v], .int .i64 f, .int .i64 n] w fun e w' => ∃ v', e = .returned (.tuple #[v', .int .i64 2]) ∧ w'.ownsRow w.heap.size 62 2 v' ([] : List (Int × Int)).length (P64 ([] : List (Int × Int))) ∧ Below w.heap.size w w' := by
  have H1 := Lib.hid (fun w' (hb : Below w.heap.size w w') => ValidBarrel_i _ ps st bl w' (hv.below hb))
  have HB := Lib.hid hs
  obtain ⟨⟨s1, s2⟩, _⟩ := brB_iff.1 hs
  have e1 : IntKind.i64.wrap (st - 1) = st - 1 := IntWalk.i64_in _ (by omega)
  have HF := Lib.hid (fun w => within_r f 0 (st - 1) _ w hf)
  clear hv hs hf
  go_enter Try.func27, Try.ntmps27
  have HK0 := Lib.hid (bx1 w 33 #[.int .i64 st, .int .i64 bl, v])
  go_wp2_with fail
  refine (H1.out _ (by go_grown)).mono ?_
  rintro e w1 ⟨rfl, hb1⟩
  rw [HB.out]
  have J0 := Lib.hid (HK0.out.below hb1)
  have q0 := J0.out.cell 0 rfl
  have q1 := J0.out.cell 1 rfl
  have q2 := J0.out.cell 2 rfl
  have z0 := J0.out.lt
  have B1 : Below w.heap.size w w1 := Below.trans (by go_grown) (hb1.mono (by first | (simp; done) | (simp; omega) | omega))
  clear hb1 HK0
  go_wp2_with fail
  refine (HF.out _).mono ?_
  rintro e w' ⟨rfl, rfl⟩
  go_wp2
  go_ret2
  exact ⟨_, rfl, World.ownsRow_nil _ _ _ _, B1⟩

set_option maxHeartbeats 2000000 in
theorem PlayBarrel_s2 (v : Value) (ps : List (Int × Int)) (st bl f n : Int) (w : World) (hv : SlP w v ps) (hs : brB st bl ps = true) (hf : inB f 0 (st - 1) = false) :
    Calls Try.prog 28 #[.agg #[.int .i64 st, .int .i64 bl, v], .int .i64 f, .int .i64 n] w fun e w' => ∃ v', e = .returned (.tuple #[v', .int .i64 2]) ∧ w'.ownsRow w.heap.size 62 2 v' ([] : List (Int × Int)).length (P64 ([] : List (Int × Int))) ∧ Below w.heap.size w w' := by
  have H1 := Lib.hid (fun w' (hb : Below w.heap.size w w') => l22Ok_s _ ps st bl w' (hv.below hb))
  have HB := Lib.hid hs
  obtain ⟨⟨s1, s2⟩, _⟩ := brB_iff.1 hs
  have e1 : IntKind.i64.wrap (st - 1) = st - 1 := IntWalk.i64_in _ (by omega)
  have HF := Lib.hid (fun w => l00In_r f 0 (st - 1) _ w hf)
  clear hv hs hf
  go_enter Try.func28, Try.ntmps28
  have HK0 := Lib.hid (bx1 w 33 #[.int .i64 st, .int .i64 bl, v])
  go_wp2_with fail
  refine (H1.out _ (by go_grown)).mono ?_
  rintro e w1 ⟨rfl, hb1⟩
  rw [HB.out]
  have J0 := Lib.hid (HK0.out.below hb1)
  have q0 := J0.out.cell 0 rfl
  have q1 := J0.out.cell 1 rfl
  have q2 := J0.out.cell 2 rfl
  have z0 := J0.out.lt
  have B1 : Below w.heap.size w w1 := Below.trans (by go_grown) (hb1.mono (by first | (simp; done) | (simp; omega) | omega))
  clear hb1 HK0
  go_wp2_with fail
  refine (HF.out _).mono ?_
  rintro e w' ⟨rfl, rfl⟩
  go_wp2
  go_ret2
  exact ⟨_, rfl, World.ownsRow_nil _ _ _ _, B1⟩

set_option maxHeartbeats 2000000 in
theorem PlayBarrel_i3 (v : Value) (ps : List (Int × Int)) (st bl f n : Int) (w : World) (hv : SlP w v ps) (hs : brB st bl ps = true) (hf : inB f 0 (st - 1) = true) (hn : inB n 0 256 = false) :
    Calls Try.prog 27 #[.agg #[.int .i64 st, .int .i64 bl, v], .int .i64 f, .int .i64 n] w fun e w' => ∃ v', e = .returned (.tuple #[v', .int .i64 2]) ∧ w'.ownsRow w.heap.size 62 2 v' ([] : List (Int × Int)).length (P64 ([] : List (Int × Int))) ∧ Below w.heap.size w w' := by
  have H1 := Lib.hid (fun w' (hb : Below w.heap.size w w') => ValidBarrel_i _ ps st bl w' (hv.below hb))
  have HB := Lib.hid hs
  obtain ⟨⟨s1, s2⟩, _⟩ := brB_iff.1 hs
  have e1 : IntKind.i64.wrap (st - 1) = st - 1 := IntWalk.i64_in _ (by omega)
  have HF := Lib.hid (fun w => within_r f 0 (st - 1) _ w hf)
  have HN := Lib.hid (fun w => within_r n 0 256 _ w hn)
  clear hv hs hf hn
  go_enter Try.func27, Try.ntmps27
  have HK0 := Lib.hid (bx1 w 33 #[.int .i64 st, .int .i64 bl, v])
  go_wp2_with fail
  refine (H1.out _ (by go_grown)).mono ?_
  rintro e w1 ⟨rfl, hb1⟩
  rw [HB.out]
  have J0 := Lib.hid (HK0.out.below hb1)
  have q0 := J0.out.cell 0 rfl
  have q1 := J0.out.cell 1 rfl
  have q2 := J0.out.cell 2 rfl
  have z0 := J0.out.lt
  have B1 : Below w.heap.size w w1 := Below.trans (by go_grown) (hb1.mono (by first | (simp; done) | (simp; omega) | omega))
  clear hb1 HK0
  go_wp2_with fail
  refine (HF.out _).mono ?_
  rintro e w' ⟨rfl, rfl⟩
  go_wp2_with fail
  refine (HN.out _).mono ?_
  rintro e w' ⟨rfl, rfl⟩
  go_wp2
  go_ret2
  exact ⟨_, rfl, World.ownsRow_nil _ _ _ _, B1⟩

set_option maxHeartbeats 2000000 in
theorem PlayBarrel_s3 (v : Value) (ps : List (Int × Int)) (st bl f n : Int) (w : World) (hv : SlP w v ps) (hs : brB st bl ps = true) (hf : inB f 0 (st - 1) = true) (hn : inB n 0 256 = false) :
    Calls Try.prog 28 #[.agg #[.int .i64 st, .int .i64 bl, v], .int .i64 f, .int .i64 n] w fun e w' => ∃ v', e = .returned (.tuple #[v', .int .i64 2]) ∧ w'.ownsRow w.heap.size 62 2 v' ([] : List (Int × Int)).length (P64 ([] : List (Int × Int))) ∧ Below w.heap.size w w' := by
  have H1 := Lib.hid (fun w' (hb : Below w.heap.size w w') => l22Ok_s _ ps st bl w' (hv.below hb))
  have HB := Lib.hid hs
  obtain ⟨⟨s1, s2⟩, _⟩ := brB_iff.1 hs
  have e1 : IntKind.i64.wrap (st - 1) = st - 1 := IntWalk.i64_in _ (by omega)
  have HF := Lib.hid (fun w => l00In_r f 0 (st - 1) _ w hf)
  have HN := Lib.hid (fun w => l00In_r n 0 256 _ w hn)
  clear hv hs hf hn
  go_enter Try.func28, Try.ntmps28
  have HK0 := Lib.hid (bx1 w 33 #[.int .i64 st, .int .i64 bl, v])
  go_wp2_with fail
  refine (H1.out _ (by go_grown)).mono ?_
  rintro e w1 ⟨rfl, hb1⟩
  rw [HB.out]
  have J0 := Lib.hid (HK0.out.below hb1)
  have q0 := J0.out.cell 0 rfl
  have q1 := J0.out.cell 1 rfl
  have q2 := J0.out.cell 2 rfl
  have z0 := J0.out.lt
  have B1 : Below w.heap.size w w1 := Below.trans (by go_grown) (hb1.mono (by first | (simp; done) | (simp; omega) | omega))
  clear hb1 HK0
  go_wp2_with fail
  refine (HF.out _).mono ?_
  rintro e w' ⟨rfl, rfl⟩
  go_wp2_with fail
  refine (HN.out _).mono ?_
  rintro e w' ⟨rfl, rfl⟩
  go_wp2
  go_ret2
  exact ⟨_, rfl, World.ownsRow_nil _ _ _ _, B1⟩

set_option maxRecDepth 100000 in
set_option maxHeartbeats 16000000 in
theorem PlayBarrel_i0 (v : Value) (ps : List (Int × Int)) (S N : Nat) (bl f : Int) (w : World) (hv : SlP w v ps) (hs : brB (S : Int) bl ps = true) (hf : inB f 0 ((S : Int) - 1) = true) (hn : N ≤ 256) :
    Calls Try.prog 27 #[.agg #[.int .i64 (S : Int), .int .i64 bl, v], .int .i64 f, .int .i64 (N : Int)] w fun e w' => ∃ v', e = .returned (.tuple #[v', .int .i64 0]) ∧ w'.ownsRow w.heap.size 62 2 v' (plA ps S f N).length (P64 (plA ps S f N)) ∧ Below w.heap.size w w' := by
  obtain ⟨st, hst⟩ : ∃ st : Int, st = (S : Int) := ⟨_, rfl⟩
  rw [← hst] at hs hf ⊢
  obtain ⟨A, c, rfl, hac, hac', HA⟩ := hv.open_
  obtain ⟨⟨s1, s2⟩, ⟨l1, l2⟩, h3, hP⟩ := brB_iff.1 hs
  obtain ⟨f0, f1⟩ := inB_iff.1 hf
  have H1 := Lib.hid (fun w' (hb : Below w.heap.size w w') => ValidBarrel_i _ ps st bl w' (hv.below hb))
  have HB := Lib.hid hs
  have e1 : IntKind.i64.wrap (st - 1) = st - 1 := IntWalk.i64_in _ (by omega)
  have HF := Lib.hid (fun w => within_r f 0 (st - 1) _ w hf)
  have HN := Lib.hid (fun w => within_r (N : Int) 0 256 true w (inB_t (by omega) (by omega)))
  have hS1 : 1 ≤ S := by omega
  have HBA := Lib.hid (fun w' (hb : Below w.heap.size w w') => bellsAt_any _ ps S bl w' (hv.below hb) (by rw [← hst]; exact hs))
  have HST := Lib.hid hst
  have HL3 := Lib.hid h3
  clear hv hs hf hP hst
  go_enter Try.func27, Try.ntmps27
  have HK0 := Lib.hid (bx1 w 33 #[.int .i64 st, .int .i64 bl, .slice A ps.length c])
  go_wp2_with fail
  refine (H1.out _ (by go_grown)).mono ?_
  rintro e w1 ⟨rfl, hb1⟩
  rw [HB.out]
  have J0 := Lib.hid (HK0.out.below hb1)
  have q0 := J0.out.cell 0 rfl
  have q1 := J0.out.cell 1 rfl
  have q2 := J0.out.cell 2 rfl
  have z0 := J0.out.lt
  have B1 : Below w.heap.size w w1 := Below.trans (by go_grown) (hb1.mono (by first | (simp; done) | (simp; omega) | omega))
  clear hb1 HK0
  go_wp2_with fail
  refine (HF.out _).mono ?_
  rintro e w' ⟨rfl, rfl⟩
  go_wp2_with fail
  refine (HN.out _).mono ?_
  rintro e w' ⟨rfl, rfl⟩
  go_wp2_with fail
  have hst2 := HST.out
  rw [hst2]
  refine (HBA.out _ B1).mono ?_
  rintro e w2 ⟨g, rfl, hbl, hb2⟩
  have J2 := Lib.hid (J0.out.below hb2)
  have zk := J2.out.lt
  have B2 := Lib.hid (grown_again B1 hb2)
  have BL := Lib.hid hbl
  have q0 := J2.out.cell 0 rfl
  have z2 := J2.out.lt
  clear hb2 hbl B1 J0 q1 q2 hst2
  go_wp2_with fail
  go_loopw [9, 10] (fun x i wr => ∃ t : Nat, t ≤ N ∧ i = .int .i64 t ∧ wr.ownsRow w2.heap.size 62 2 x (plA ps S f t).length (P64 (plA ps S f t)) ∧ Blk wr w.heap.size 33 #[.int .i64 st, .int .i64 bl, .slice A ps.length c] ∧ Below w2.heap.size w2 wr) (fun _ i _ => N - (intOf i).toNat)
  case atStart => exact ⟨0, Nat.zero_le _, rfl, World.ownsRow_nil _ _ _ _, J2.out, Below.refl _ _⟩
  case round =>
    clear q0 z2
    obtain ⟨t, ht, rfl, hown, b0, hB⟩ := hrel
    obtain ⟨wo, rfl⟩ : ∃ x : World, x = wr := ⟨_, rfl⟩
    obtain ⟨Ax, cx, rfl⟩ := own_form hown
    have q0 := b0.cell 0 rfl
    have q2 := b0.cell 2 rfl
    have z0 := b0.lt
    have P0 := Lib.hid b0
    have HO := Lib.hid hown
    have zB := hB.size
    clear b0 hown
    by_cases hlt : t < N
    · have i1 : (t : Int) < (N : Int) := by omega
      have hsl := sAt_lt (f := f) (t := t) hS1
      have hse := sAt_eq (f := f) (t := t) hS1
      rw [← HST.out] at hse
      obtain ⟨s, hs⟩ : ∃ s, s = sAt S f t := ⟨_, rfl⟩
      rw [← hs] at hsl hse
      have HS := Lib.hid hs
      have HSE := Lib.hid hse
      have e2 : IntKind.i64.wrap (f + (t : Int)) = f + (t : Int) := IntWalk.i64_in _ (by omega)
      have e3 : (f + (t : Int)).tmod st = (s : Int) := by rw [hse]; exact Int.tmod_eq_emod_of_nonneg (by omega)
      have e4 : (f + (t : Int)) % st = (s : Int) := hse.symm
      have hss : (s : Int) < st := by have := HST.out; omega
      have hst0 : ¬ st = 0 := by omega
      clear hs hse
      have hss2 : (s : Int) < (S : Int) := by omega
      have hss3 : s < S := hsl
      obtain ⟨u, hu0, ho, _, _, hgl0, _⟩ := BL.out.at_ hsl
      have hu : wo.cell? ⟨g, s, none⟩ = some u := (hB.cell (p := ⟨g, s, none⟩) hgl0).trans hu0
      have hgl : g < wo.heap.size := by omega
      clear hu0
      obtain ⟨Au, cu, rfl⟩ := own_form ho
      have HU := Lib.hid ho
      obtain ⟨LB, hLB⟩ : ∃ LB, LB = bA ps s ps.length := ⟨_, rfl⟩
      simp only [← hLB] at hu ho HU
      have HU := Lib.hid ho
      have HLB := Lib.hid hLB
      have hau := (Sl.of_own (own_mono ho (Nat.zero_le _))).open_
      obtain ⟨_, _, e, huc, huc', HAU⟩ := hau
      injection e with e5 e6 e7
      subst e5 e7
      clear ho hLB
      go_wp2_with fail
      go_loopw [9, 44] (fun x i wr => ∃ j : Nat, j ≤ LB.length ∧ i = .int .i64 j ∧ wr.ownsRow w2.heap.size 62 2 x (imI ps S f t j).length (P64 (imI ps S f t j)) ∧ Blk wr w.heap.size 33 #[.int .i64 st, .int .i64 bl, .slice A ps.length c] ∧ Below w2.heap.size wo wr) (fun _ i _ => LB.length - (intOf i).toNat)
      case atStart => exact ⟨0, Nat.zero_le _, rfl, by rw [imI_zero]; exact HO.out, P0.out, Below.refl _ _⟩
      case round =>
        clear q0 q2 z0 hu
        obtain ⟨j, hj, rfl, hown, b0, hB2⟩ := hrel
        obtain ⟨Ay, cy, rfl⟩ := own_form hown
        have G0 := Lib.hid b0
        have HO2 := Lib.hid hown
        have zz := b0.lt
        have zB2 := hB2.size
        clear b0 hown
        by_cases hlj : j < LB.length
        · have i2 : (j : Int) < (LB.length : Int) := by omega
          have HE := Lib.hid (imI_succ (ps := ps) (st := S) (f := f) (t := t) (j := j) (by rw [← HS.out, ← HLB.out]; exact hlj))
          obtain ⟨ba, oa, rfl, hba, hca⟩ := HAU.out j hlj
          have hbw : ba < w2.heap.size := hba
          have a0 : wr.cell? ⟨ba, oa + j, none⟩ = _ := ((hB.trans hB2).cell (p := ⟨ba, oa + j, none⟩) hbw).trans (hca j hlj)
          have zb : ba < wr.heap.size := by omega
          have i3 : (LB.length : Int) ≤ (cu : Int) := by omega
          have hsz : w2.heap.size ≤ wr.heap.size := by omega
          have hll : (imI ps S f t j).length ≤ 134217728 := Nat.le_trans (imI_length HL3.out) (by omega)
          clear hca HAU
          go_wp2_with (at_builtin; refine wpList_appPin rfl _ _ rfl w2.heap.size _ (imI ps S f t j) rfl HO2.out _ _ _ rfl rfl hll hsz ?_; intro v4 w4 hown4 hb4 hg4; have O4 := Lib.hid hown4; have G4 := Lib.hid (G0.out.belowB hb4 (by omega)); have B4 := Lib.hid (hB2.trans hb4); clear hown4 hb4 hg4)
          go_roundw
          case rel => exact ⟨j + 1, by omega, by go_num, by rw [HE.out, ← HS.out, ← HLB.out]; exact O4.out, G4.out, B4.out⟩
          case measure => simp [intOf]; omega
        · have hjl : j = LB.length := by omega
          have HE : Hid (imI ps S f t j = plA ps S f (t + 1)) := by
            show _ = _
            rw [hjl, HLB.out, HS.out]; exact imI_end
          have HB3 := Lib.hid (hB.trans hB2)
          clear HAU
          go_wp2
          go_roundw
          case rel => exact ⟨t + 1, by omega, by go_num, by rw [← HE.out]; exact HO2.out, G0.out, HB3.out⟩
          case measure => simp [intOf]; omega
    · obtain rfl : t = N := by omega
      have hzz := B2.out.size
      go_wp2
      go_ret2
      exact ⟨_, rfl, own_mono HO.out hzz, B2.out.trans (hB.mono hzz)⟩

set_option maxRecDepth 100000 in
set_option maxHeartbeats 16000000 in
theorem PlayBarrel_s0 (v : Value) (ps : List (Int × Int)) (S N : Nat) (bl f : Int) (w : World) (hv : SlP w v ps) (hs : brB (S : Int) bl ps = true) (hf : inB f 0 ((S : Int) - 1) = true) (hn : N ≤ 256) :
    Calls Try.prog 28 #[.agg #[.int .i64 (S : Int), .int .i64 bl, v], .int .i64 f, .int .i64 (N : Int)] w fun e w' => ∃ v', e = .returned (.tuple #[v', .int .i64 0]) ∧ w'.ownsRow w.heap.size 62 2 v' (plA ps S f N).length (P64 (plA ps S f N)) ∧ Below w.heap.size w w' := by
  obtain ⟨st, hst⟩ : ∃ st : Int, st = (S : Int) := ⟨_, rfl⟩
  rw [← hst] at hs hf ⊢
  obtain ⟨A, c, rfl, hac, hac', HA⟩ := hv.open_
  obtain ⟨⟨s1, s2⟩, ⟨l1, l2⟩, h3, hP⟩ := brB_iff.1 hs
  obtain ⟨f0, f1⟩ := inB_iff.1 hf
  have H1 := Lib.hid (fun w' (hb : Below w.heap.size w w') => l22Ok_s _ ps st bl w' (hv.below hb))
  have HB := Lib.hid hs
  have e1 : IntKind.i64.wrap (st - 1) = st - 1 := IntWalk.i64_in _ (by omega)
  have HF := Lib.hid (fun w => l00In_r f 0 (st - 1) _ w hf)
  have HN := Lib.hid (fun w => l00In_r (N : Int) 0 256 true w (inB_t (by omega) (by omega)))
  have hS1 : 1 ≤ S := by omega
  have HST := Lib.hid hst
  have HL3 := Lib.hid h3
  clear hv hs hf hP hst
  go_enter Try.func28, Try.ntmps28
  have HK0 := Lib.hid (bx1 w 33 #[.int .i64 st, .int .i64 bl, .slice A ps.length c])
  go_wp2_with fail
  refine (H1.out _ (by go_grown)).mono ?_
  rintro e w1 ⟨rfl, hb1⟩
  rw [HB.out]
  have J0 := Lib.hid (HK0.out.below hb1)
  have q0 := J0.out.cell 0 rfl
  have q1 := J0.out.cell 1 rfl
  have q2 := J0.out.cell 2 rfl
  have z0 := J0.out.lt
  have B1 : Below w.heap.size w w1 := Below.trans (by go_grown) (hb1.mono (by first | (simp; done) | (simp; omega) | omega))
  clear hb1 HK0
  go_wp2_with fail
  refine (HF.out _).mono ?_
  rintro e w' ⟨rfl, rfl⟩
  go_wp2_with fail
  refine (HN.out _).mono ?_
  rintro e w' ⟨rfl, rfl⟩
  have J2 := Lib.hid J0.out
  have zk := J2.out.lt
  have B2 := Lib.hid B1
  clear B1 J0 q1 q2
  go_wp2_with fail
  go_loopw [8, 9] (fun x i wr => ∃ t : Nat, t ≤ N ∧ i = .int .i64 t ∧ wr.ownsRow w1.heap.size 62 2 x (plA ps S f t).length (P64 (plA ps S f t)) ∧ Blk wr w.heap.size 33 #[.int .i64 st, .int .i64 bl, .slice A ps.length c] ∧ Below w1.heap.size w1 wr) (fun _ i _ => N - (intOf i).toNat)
  case atStart => exact ⟨0, Nat.zero_le _, rfl, own_litP w1 w1.heap.size rfl (Nat.le_refl _) _, J2.out.alloc _, by go_grown⟩
  case round =>
    clear q0 z0
    obtain ⟨t, ht, rfl, hown, b0, hB⟩ := hrel
    obtain ⟨wo, rfl⟩ : ∃ x : World, x = wr := ⟨_, rfl⟩
    obtain ⟨Ax, cx, rfl⟩ := own_form hown
    have q0 := b0.cell 0 rfl
    have q2 := b0.cell 2 rfl
    have z0 := b0.lt
    have P0 := Lib.hid b0
    have HO := Lib.hid hown
    have zB := hB.size
    clear b0 hown
    by_cases hlt : t < N
    · have i1 : (t : Int) < (N : Int) := by omega
      have hsl := sAt_lt (f := f) (t := t) hS1
      have hse := sAt_eq (f := f) (t := t) hS1
      rw [← HST.out] at hse
      obtain ⟨s, hs⟩ : ∃ s, s = sAt S f t := ⟨_, rfl⟩
      rw [← hs] at hsl hse
      have HS := Lib.hid hs
      have HSE := Lib.hid hse
      have e2 : IntKind.i64.wrap (f + (t : Int)) = f + (t : Int) := IntWalk.i64_in _ (by omega)
      have e3 : (f + (t : Int)).tmod st = (s : Int) := by rw [hse]; exact Int.tmod_eq_emod_of_nonneg (by omega)
      have e4 : (f + (t : Int)) % st = (s : Int) := hse.symm
      have hss : (s : Int) < st := by have := HST.out; omega
      have hst0 : ¬ st = 0 := by omega
      clear hs hse
      go_wp2_with fail
      go_loopw [8, 11] (fun x i wr => ∃ k : Nat, k ≤ ps.length ∧ i = .int .i64 k ∧ wr.ownsRow w1.heap.size 62 2 x (spI ps S f t k).length (P64 (spI ps S f t k)) ∧ Blk wr w.heap.size 33 #[.int .i64 st, .int .i64 bl, .slice A ps.length c] ∧ Below w1.heap.size wo wr) (fun _ i _ => ps.length - (intOf i).toNat)
      case atStart => exact ⟨0, Nat.zero_le _, rfl, by rw [spI_zero]; exact HO.out, P0.out, Below.refl _ _⟩
      case round =>
        clear q0 q2 z0
        obtain ⟨k, hk, rfl, hown, b0, hB2⟩ := hrel
        obtain ⟨Ay, cy, rfl⟩ := own_form hown
        have q2 := b0.cell 2 rfl
        have G0 := Lib.hid b0
        have HO2 := Lib.hid hown
        have zz := b0.lt
        have zB2 := hB2.size
        have hzw := B2.out.size
        clear b0 hown
        by_cases hlk : k < ps.length
        · have i2 : (k : Int) < (ps.length : Int) := by omega
          obtain ⟨ba, oa, rfl, hba, hca⟩ := HA.out k hlk
          have HW : Hid (Below w.heap.size w wr) := B2.out.trans ((hB.trans hB2).mono hzw)
          have a0 : wr.cell? ⟨ba, oa + k * 2, none⟩ = _ := (HW.out.cell (p := ⟨ba, oa + k * 2, none⟩) hba).trans (hca k hlk).1
          have a1 : wr.cell? ⟨ba, oa + k * 2 + 1, none⟩ = _ := (HW.out.cell (p := ⟨ba, oa + (k * 2 + 1), none⟩) hba).trans (hca k hlk).2
          have zb : ba < wr.heap.size := by omega
          have i3 : (ps.length : Int) ≤ (c : Int) := by omega
          have hsz : w1.heap.size ≤ wr.heap.size := by omega
          have hll : (spI ps S f t k).length ≤ 134217728 := Nat.le_trans (spI_length HL3.out hk) (by omega)
          clear hca HA
          by_cases he : (pi ps k).1 = (s : Int)
          · have heq : ((pi ps k).1 == (s : Int)) = true := by simp [he]
            have HE := Lib.hid (spI_yes (ps := ps) (st := S) (f := f) (t := t) (k := k) (by rw [← HS.out]; exact he))
            clear he
            go_wp2_with (at_builtin; refine wpList_appPin rfl _ _ rfl w1.heap.size _ (spI ps S f t k) rfl HO2.out _ _ _ rfl rfl hll hsz ?_; intro v4 w4 hown4 hb4 hg4; have O4 := Lib.hid hown4; have G4 := Lib.hid (G0.out.belowB hb4 (by omega)); have B4 := Lib.hid (hB2.trans hb4); clear hown4 hb4 hg4)
            go_roundw
            case rel => exact ⟨k + 1, by omega, by go_num, by rw [HE.out]; exact O4.out, G4.out, B4.out⟩
            case measure => simp [intOf]; omega
          · have heq : ((pi ps k).1 == (s : Int)) = false := by simp [he]
            have HE := Lib.hid (spI_no (ps := ps) (st := S) (f := f) (t := t) (k := k) (by rw [← HS.out]; exact he))
            clear he
            go_wp2_with fail
            go_roundw
            case rel => exact ⟨k + 1, by omega, by go_num, by rw [HE.out]; exact HO2.out, G0.out, hB2⟩
            case measure => simp [intOf]; omega
        · obtain rfl : k = ps.length := by omega
          have HB3 := Lib.hid (hB.trans hB2)
          clear HA
          go_wp2
          go_roundw
          case rel => exact ⟨t + 1, by omega, by go_num, by rw [← spI_end]; exact HO2.out, G0.out, HB3.out⟩
          case measure => simp [intOf]; omega
    · obtain rfl : t = N := by omega
      have hzz := B2.out.size
      go_wp2
      go_ret2
      exact ⟨_, rfl, own_mono HO.out hzz, B2.out.trans (hB.mono hzz)⟩

theorem PlayBarrel_both (st bl : Int) (ps : List (Int × Int)) (f n : Int) : ∃ (rl : List (Int × Int)) (rc : Int), rl.length ≤ 40000 ∧
    (∀ v w, SlP w v ps → Calls Try.prog 27 #[.agg #[.int .i64 st, .int .i64 bl, v], .int .i64 f, .int .i64 n] w fun e w' => ∃ v', e = .returned (.tuple #[v', .int .i64 rc]) ∧ w'.ownsRow w.heap.size 62 2 v' rl.length (P64 rl) ∧ Below w.heap.size w w') ∧
    (∀ v w, SlP w v ps → Calls Try.prog 28 #[.agg #[.int .i64 st, .int .i64 bl, v], .int .i64 f, .int .i64 n] w fun e w' => ∃ v', e = .returned (.tuple #[v', .int .i64 rc]) ∧ w'.ownsRow w.heap.size 62 2 v' rl.length (P64 rl) ∧ Below w.heap.size w w') := by
  cases hs : brB st bl ps with
  | false => exact ⟨[], _, Nat.zero_le _, fun v w hv => PlayBarrel_i1 v ps st bl f n w hv hs, fun v w hv => PlayBarrel_s1 v ps st bl f n w hv hs⟩
  | true =>
    cases hf : inB f 0 (st - 1) with
    | false => exact ⟨[], _, Nat.zero_le _, fun v w hv => PlayBarrel_i2 v ps st bl f n w hv hs hf, fun v w hv => PlayBarrel_s2 v ps st bl f n w hv hs hf⟩
    | true =>
      cases hn : inB n 0 256 with
      | false => exact ⟨[], _, Nat.zero_le _, fun v w hv => PlayBarrel_i3 v ps st bl f n w hv hs hf hn, fun v w hv => PlayBarrel_s3 v ps st bl f n w hv hs hf hn⟩
      | true =>
        obtain ⟨n0, n1⟩ := inB_iff.1 hn
        obtain ⟨⟨s1, _⟩, _, h3, _⟩ := brB_iff.1 hs
        obtain ⟨N, rfl⟩ := Int.eq_ofNat_of_zero_le n0
        obtain ⟨S, rfl⟩ := Int.eq_ofNat_of_zero_le (show 0 ≤ st by omega)
        exact ⟨plA ps S f N, 0, Nat.le_trans (plA_length h3) (by omega), fun v w hv => PlayBarrel_i0 v ps S N bl f w hv hs hf (by omega), fun v w hv => PlayBarrel_s0 v ps S N bl f w hv hs hf (by omega)⟩
end Go.Proofs.Ytgaohmbgjjhdbaa
