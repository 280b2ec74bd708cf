/- Racks: CopyWheel in the program and in the reference. -/
import Derived.Test.YtipakagmbppagaaWhV
import Derived.Test.YtipakagmbppagaaFl
import Derived.Test.YtipakagmbppagaaCpy
import Derived.OwnWalk
import Derived.Deep.RegionLaw
namespace Go.Proofs.Ytipakagmbppagaa
open Go.RowKit
attribute [local go_sem ↓] Go.wp_at_zero Go.wp_at_succ

/-- The first k depths of the rack that strikes as a wheel does. -/
def cwM (gs : List Int) (q : Int) (k : Nat) : List Int := (List.range k).map fun h : Nat => gapM gs (q + (((h + 11) % 12 : Nat) : Int))
/-- The depths after k stores. -/
def cwI (gs : List Int) (q : Int) (k : Nat) : List Int := (List.range 12).map fun h : Nat => if (h + 11) % 12 < k then gapM gs (q + (((h + 11) % 12 : Nat) : Int)) else 0
theorem cwM_length (gs : List Int) (q : Int) (k : Nat) : (cwM gs q k).length = k := by simp [cwM]
theorem cwI_length (gs : List Int) (q : Int) (k : Nat) : (cwI gs q k).length = 12 := by simp [cwI]
theorem cwM_succ (gs : List Int) (q : Int) (k : Nat) : cwM gs q (k + 1) = cwM gs q k ++ [gapM gs (q + (((k + 11) % 12 : Nat) : Int))] := by simp [cwM, List.range_succ]
theorem ix_cwI {gs : List Int} {q : Int} {k j : Nat} (h : j < 12) : ix (cwI gs q k) j = if (j + 11) % 12 < k then gapM gs (q + (((j + 11) % 12 : Nat) : Int)) else 0 := by
  rw [ix_eq (by rw [cwI_length]; exact h)]; simp [cwI]
theorem ix_cwM {gs : List Int} {q : Int} {k j : Nat} (h : j < k) : ix (cwM gs q k) j = gapM gs (q + (((j + 11) % 12 : Nat) : Int)) := by
  rw [ix_eq (by rw [cwM_length]; exact h)]; simp [cwM]
theorem cwI_zero (gs : List Int) (q : Int) : cwI gs q 0 = List.replicate 12 0 := by
  refine ext_ix (by simp [cwI_length]) fun j hj => ?_
  rw [cwI_length] at hj
  rw [ix_cwI hj, if_neg (by omega), ix_eq (by simpa using hj), List.getElem_replicate]
theorem cwI_all (gs : List Int) (q : Int) : cwI gs q 12 = cwM gs q 12 := by
  refine ext_ix (by rw [cwI_length, cwM_length]) fun j hj => ?_
  rw [cwI_length] at hj
  rw [ix_cwI hj, ix_cwM hj, if_pos (by omega)]
theorem ix_set {xs : List Int} {j k : Nat} (x : Int) (hj : j < xs.length) : ix (xs.set k x) j = if k = j then x else ix xs j := by
  rw [ix_eq (by simpa using hj), ix_eq hj, List.getElem_set]
theorem I64_set (xs : List Int) (k : Nat) (x : Int) : (I64 xs).set k (.int .i64 x) = I64 (xs.set k x) := by simp [I64, List.map_set]
theorem cwI_set {gs : List Int} {q : Int} {k : Nat} (h : k < 12) : (I64 (cwI gs q k)).set ((k + 1) % 12) (.int .i64 (gapM gs (q + (k : Int)))) = I64 (cwI gs q (k + 1)) := by
  rw [I64_set]
  congr 1
  refine ext_ix (by simp [cwI_length]) fun j hj => ?_
  have hj' : j < 12 := by simpa [cwI_length] using hj
  rw [ix_set _ (by rw [cwI_length]; exact hj'), ix_cwI hj', ix_cwI hj']
  by_cases h1 : (k + 1) % 12 = j
  · have e : (j + 11) % 12 = k := by omega
    rw [if_pos h1, e, if_pos (by omega)]
  · have e : ¬ (j + 11) % 12 = k := by omega
    rw [if_neg h1]
    by_cases h2 : (j + 11) % 12 < k
    · rw [if_pos h2, if_pos (by omega)]
    · rw [if_neg h2, if_neg (by omega)]

set_option maxHeartbeats 2000000 in
theorem CopyWheel_i1 (v : Value) (gs : List Int) (q wn : Int) (w : World) (hv : Sl w v gs) (hs : whB gs = false) :
    Calls Try.prog 56 #[.agg #[v], .int .i64 q, .int .i64 wn] w fun e w' => ∃ v', e = .returned (.tuple #[.agg #[v', .int .i64 0], .int .i64 1]) ∧ w'.ownsRow w.heap.size 2 1 v' ([] : List Int).length (I64 ([] : List Int)) ∧ Below w.heap.size w w' := by
  have H1 := Lib.hid (fun w' (hb : Below w.heap.size w w') => ValidCountWheel_i v gs w' (hv.below hb))
  have H2 := Lib.hid (fun w' (hb : Below w.heap.size w w') => isNotch_any v gs q w' (hv.below hb))
  have H0 := Lib.hid hs
  clear hv hs
  go_enter Try.func56, Try.ntmps56
  obtain ⟨k0, k1⟩ := bx2 w 62 27 #[v] #[.slice none 0 0, .int .i64 0]
  have HK0 := Lib.hid k0
  have HK1 := Lib.hid k1
  clear k0 k1
  go_wp2_with fail
  refine (H1.out _ (by go_grown)).mono ?_
  rintro e w1 ⟨rfl, hb1⟩
  rw [H0.out]
  have J0 := Lib.hid (HK0.out.below hb1)
  have J1 := Lib.hid (HK1.out.below hb1)
  have q0 := J0.out.cell 0 rfl
  have q2 := J1.out.cell 0 rfl
  have q3 := J1.out.cell 1 rfl
  have f2 := J1.out.frozen 0
  have f3 := J1.out.frozen 1
  have z2 := J1.out.lt
  have B1 : Below w.heap.size w w1 := Below.trans (by go_grown) (hb1.mono (by simp; omega))
  clear hb1 HK0 HK1
  go_wp2
  try simp only [Exit.inBlock, Exit.then]
  refine bodyPost_ret (v := .tuple #[.agg #[.slice none 0 0, .int .i64 0], .int .i64 1]) ?_ rfl ?_
  · simp [results, Try.results56, go_sem, q2, q3]
  exact ⟨_, rfl, World.ownsRow_nil _ _ _ _, by go_grown⟩

set_option maxHeartbeats 2000000 in
theorem CopyWheel_s1 (v : Value) (gs : List Int) (q wn : Int) (w : World) (hv : Sl w v gs) (hs : whB gs = false) :
    Calls Try.prog 54 #[.agg #[v], .int .i64 q, .int .i64 wn] w fun e w' => ∃ v', e = .returned (.tuple #[.agg #[v', .int .i64 0], .int .i64 1]) ∧ w'.ownsRow w.heap.size 2 1 v' ([] : List Int).length (I64 ([] : List Int)) ∧ Below w.heap.size w w' := by
  have H1 := Lib.hid (fun w' (hb : Below w.heap.size w w') => l20Code_any v gs q w' (hv.below hb))
  have H0 := Lib.hid (whC_bad (k := q) hs)
  clear hv hs
  go_enter Try.func54, Try.ntmps54
  obtain ⟨k0, k1⟩ := bx2 w 62 27 #[v] #[.slice none 0 0, .int .i64 0]
  have HK0 := Lib.hid k0
  have HK1 := Lib.hid k1
  clear k0 k1
  go_wp2_with fail
  refine (H1.out _ (by go_grown)).mono ?_
  rintro e w1 ⟨rfl, hb1⟩
  rw [H0.out]
  have J0 := Lib.hid (HK0.out.below hb1)
  have J1 := Lib.hid (HK1.out.below hb1)
  have q0 := J0.out.cell 0 rfl
  have q2 := J1.out.cell 0 rfl
  have q3 := J1.out.cell 1 rfl
  have f2 := J1.out.frozen 0
  have f3 := J1.out.frozen 1
  have z2 := J1.out.lt
  have B1 : Below w.heap.size w w1 := Below.trans (by go_grown) (hb1.mono (by simp; omega))
  clear hb1 HK0 HK1
  go_wp2
  try simp only [Exit.inBlock, Exit.then]
  refine bodyPost_ret (v := .tuple #[.agg #[.slice none 0 0, .int .i64 0], .int .i64 1]) ?_ rfl ?_
  · simp [results, Try.results54, go_sem, q2, q3]
  exact ⟨_, rfl, World.ownsRow_nil _ _ _ _, by go_grown⟩

set_option maxHeartbeats 2000000 in
theorem CopyWheel_i2 (v : Value) (gs : List Int) (q wn : Int) (w : World) (hv : Sl w v gs) (hs : whB gs = true) (hn : inB q 0 ((gs.length : Int) - 1) = false) :
    Calls Try.prog 56 #[.agg #[v], .int .i64 q, .int .i64 wn] w fun e w' => ∃ v', e = .returned (.tuple #[.agg #[v', .int .i64 0], .int .i64 2]) ∧ w'.ownsRow w.heap.size 2 1 v' ([] : List Int).length (I64 ([] : List Int)) ∧ Below w.heap.size w w' := by
  have H1 := Lib.hid (fun w' (hb : Below w.heap.size w w') => ValidCountWheel_i v gs w' (hv.below hb))
  have H2 := Lib.hid (fun w' (hb : Below w.heap.size w w') => isNotch_any v gs q w' (hv.below hb))
  have H0 := Lib.hid hs
  have HN := Lib.hid hn
  clear hv hs hn
  go_enter Try.func56, Try.ntmps56
  obtain ⟨k0, k1⟩ := bx2 w 62 27 #[v] #[.slice none 0 0, .int .i64 0]
  have HK0 := Lib.hid k0
  have HK1 := Lib.hid k1
  clear k0 k1
  go_wp2_with fail
  refine (H1.out _ (by go_grown)).mono ?_
  rintro e w1 ⟨rfl, hb1⟩
  rw [H0.out]
  have J0 := Lib.hid (HK0.out.below hb1)
  have J1 := Lib.hid (HK1.out.below hb1)
  have q0 := J0.out.cell 0 rfl
  have q2 := J1.out.cell 0 rfl
  have q3 := J1.out.cell 1 rfl
  have f2 := J1.out.frozen 0
  have f3 := J1.out.frozen 1
  have z2 := J1.out.lt
  have B1 : Below w.heap.size w w1 := Below.trans (by go_grown) (hb1.mono (by simp; omega))
  clear hb1 HK0 HK1
  go_wp2_with fail
  refine (H2.out _ B1).mono ?_
  rintro e w2 ⟨rfl, hb2⟩
  rw [HN.out]
  have q0 := (J0.out.below hb2).cell 0 rfl
  have q2 := (J1.out.below hb2).cell 0 rfl
  have q3 := (J1.out.below hb2).cell 1 rfl
  have f2 := (J1.out.below hb2).frozen 0
  have f3 := (J1.out.below hb2).frozen 1
  have z2 := (J1.out.below hb2).lt
  have B2 := B1.trans (hb2.mono B1.size)
  clear hb2
  go_wp2
  try simp only [Exit.inBlock, Exit.then]
  refine bodyPost_ret (v := .tuple #[.agg #[.slice none 0 0, .int .i64 0], .int .i64 2]) ?_ rfl ?_
  · simp [results, Try.results56, go_sem, q2, q3]
  exact ⟨_, rfl, World.ownsRow_nil _ _ _ _, by go_grown⟩

set_option maxHeartbeats 2000000 in
theorem CopyWheel_s2 (v : Value) (gs : List Int) (q wn : Int) (w : World) (hv : Sl w v gs) (hs : whB gs = true) (hn : inB q 0 ((gs.length : Int) - 1) = false) :
    Calls Try.prog 54 #[.agg #[v], .int .i64 q, .int .i64 wn] w fun e w' => ∃ v', e = .returned (.tuple #[.agg #[v', .int .i64 0], .int .i64 2]) ∧ w'.ownsRow w.heap.size 2 1 v' ([] : List Int).length (I64 ([] : List Int)) ∧ Below w.heap.size w w' := by
  have H1 := Lib.hid (fun w' (hb : Below w.heap.size w w') => l20Code_any v gs q w' (hv.below hb))
  have H0 := Lib.hid (whC_far hs hn)
  have HN := Lib.hid hn
  clear hv hs hn
  go_enter Try.func54, Try.ntmps54
  obtain ⟨k0, k1⟩ := bx2 w 62 27 #[v] #[.slice none 0 0, .int .i64 0]
  have HK0 := Lib.hid k0
  have HK1 := Lib.hid k1
  clear k0 k1
  go_wp2_with fail
  refine (H1.out _ (by go_grown)).mono ?_
  rintro e w1 ⟨rfl, hb1⟩
  rw [H0.out]
  have J0 := Lib.hid (HK0.out.below hb1)
  have J1 := Lib.hid (HK1.out.below hb1)
  have q0 := J0.out.cell 0 rfl
  have q2 := J1.out.cell 0 rfl
  have q3 := J1.out.cell 1 rfl
  have f2 := J1.out.frozen 0
  have f3 := J1.out.frozen 1
  have z2 := J1.out.lt
  have B1 : Below w.heap.size w w1 := Below.trans (by go_grown) (hb1.mono (by simp; omega))
  clear hb1 HK0 HK1
  go_wp2
  try simp only [Exit.inBlock, Exit.then]
  refine bodyPost_ret (v := .tuple #[.agg #[.slice none 0 0, .int .i64 0], .int .i64 2]) ?_ rfl ?_
  · simp [results, Try.results54, go_sem, q2, q3]
  exact ⟨_, rfl, World.ownsRow_nil _ _ _ _, by go_grown⟩

set_option maxHeartbeats 2000000 in
theorem CopyWheel_i3 (v : Value) (gs : List Int) (q wn : Int) (w : World) (hv : Sl w v gs) (hs : whB gs = true) (hn : inB q 0 ((gs.length : Int) - 1) = true) (hw : inB wn 1 30 = false) :
    Calls Try.prog 56 #[.agg #[v], .int .i64 q, .int .i64 wn] w fun e w' => ∃ v', e = .returned (.tuple #[.agg #[v', .int .i64 0], .int .i64 2]) ∧ w'.ownsRow w.heap.size 2 1 v' ([] : List Int).length (I64 ([] : List Int)) ∧ Below w.heap.size w w' := by
  have H1 := Lib.hid (fun w' (hb : Below w.heap.size w w') => ValidCountWheel_i v gs w' (hv.below hb))
  have H2 := Lib.hid (fun w' (hb : Below w.heap.size w w') => isNotch_any v gs q w' (hv.below hb))
  have H0 := Lib.hid hs
  have HN := Lib.hid hn
  clear hv hs hn
  go_enter Try.func56, Try.ntmps56
  obtain ⟨k0, k1⟩ := bx2 w 62 27 #[v] #[.slice none 0 0, .int .i64 0]
  have HK0 := Lib.hid k0
  have HK1 := Lib.hid k1
  clear k0 k1
  go_wp2_with fail
  refine (H1.out _ (by go_grown)).mono ?_
  rintro e w1 ⟨rfl, hb1⟩
  rw [H0.out]
  have J0 := Lib.hid (HK0.out.below hb1)
  have J1 := Lib.hid (HK1.out.below hb1)
  have q0 := J0.out.cell 0 rfl
  have q2 := J1.out.cell 0 rfl
  have q3 := J1.out.cell 1 rfl
  have f2 := J1.out.frozen 0
  have f3 := J1.out.frozen 1
  have z2 := J1.out.lt
  have B1 : Below w.heap.size w w1 := Below.trans (by go_grown) (hb1.mono (by simp; omega))
  clear hb1 HK0 HK1
  go_wp2_with fail
  refine (H2.out _ B1).mono ?_
  rintro e w2 ⟨rfl, hb2⟩
  rw [HN.out]
  have q0 := (J0.out.below hb2).cell 0 rfl
  have q2 := (J1.out.below hb2).cell 0 rfl
  have q3 := (J1.out.below hb2).cell 1 rfl
  have f2 := (J1.out.below hb2).frozen 0
  have f3 := (J1.out.below hb2).frozen 1
  have z2 := (J1.out.below hb2).lt
  have B2 := B1.trans (hb2.mono B1.size)
  clear hb2
  go_wp2_with (go_at_call 71; refine (within_any _ _ _ _).mono ?_; rintro e w' ⟨rfl, rfl⟩)
  try simp only [Exit.inBlock, Exit.then]
  refine bodyPost_ret (v := .tuple #[.agg #[.slice none 0 0, .int .i64 0], .int .i64 2]) ?_ rfl ?_
  · simp [results, Try.results56, go_sem, q2, q3]
  exact ⟨_, rfl, World.ownsRow_nil _ _ _ _, by go_grown⟩

set_option maxHeartbeats 2000000 in
theorem CopyWheel_s3 (v : Value) (gs : List Int) (q wn : Int) (w : World) (hv : Sl w v gs) (hs : whB gs = true) (hn : inB q 0 ((gs.length : Int) - 1) = true) (hw : inB wn 1 30 = false) :
    Calls Try.prog 54 #[.agg #[v], .int .i64 q, .int .i64 wn] w fun e w' => ∃ v', e = .returned (.tuple #[.agg #[v', .int .i64 0], .int .i64 2]) ∧ w'.ownsRow w.heap.size 2 1 v' ([] : List Int).length (I64 ([] : List Int)) ∧ Below w.heap.size w w' := by
  have H1 := Lib.hid (fun w' (hb : Below w.heap.size w w') => l20Code_any v gs q w' (hv.below hb))
  have H0 := Lib.hid (whC_ok hs hn)
  have HN := Lib.hid hn
  clear hv hs hn
  go_enter Try.func54, Try.ntmps54
  obtain ⟨k0, k1⟩ := bx2 w 62 27 #[v] #[.slice none 0 0, .int .i64 0]
  have HK0 := Lib.hid k0
  have HK1 := Lib.hid k1
  clear k0 k1
  go_wp2_with fail
  refine (H1.out _ (by go_grown)).mono ?_
  rintro e w1 ⟨rfl, hb1⟩
  rw [H0.out]
  have J0 := Lib.hid (HK0.out.below hb1)
  have J1 := Lib.hid (HK1.out.below hb1)
  have q0 := J0.out.cell 0 rfl
  have q2 := J1.out.cell 0 rfl
  have q3 := J1.out.cell 1 rfl
  have f2 := J1.out.frozen 0
  have f3 := J1.out.frozen 1
  have z2 := J1.out.lt
  have B1 : Below w.heap.size w w1 := Below.trans (by go_grown) (hb1.mono (by simp; omega))
  clear hb1 HK0 HK1
  go_wp2_with (go_at_call 80; refine (l00In_any _ _ _ _).mono ?_; rintro e w' ⟨rfl, rfl⟩)
  try simp only [Exit.inBlock, Exit.then]
  refine bodyPost_ret (v := .tuple #[.agg #[.slice none 0 0, .int .i64 0], .int .i64 2]) ?_ rfl ?_
  · simp [results, Try.results54, go_sem, q2, q3]
  exact ⟨_, rfl, World.ownsRow_nil _ _ _ _, by go_grown⟩

set_option maxHeartbeats 2000000 in
theorem CopyWheel_i4 (v : Value) (gs : List Int) (q wn : Int) (w : World) (hv : Sl w v gs) (hs : whB gs = true) (hn : inB q 0 ((gs.length : Int) - 1) = true) (hw : inB wn 1 30 = true) (hd : ¬ (12 : Int) % (gs.length : Int) = 0) :
    Calls Try.prog 56 #[.agg #[v], .int .i64 q, .int .i64 wn] w fun e w' => ∃ v', e = .returned (.tuple #[.agg #[v', .int .i64 0], .int .i64 6]) ∧ w'.ownsRow w.heap.size 2 1 v' ([] : List Int).length (I64 ([] : List Int)) ∧ Below w.heap.size w w' := by
  have H1 := Lib.hid (fun w' (hb : Below w.heap.size w w') => ValidCountWheel_i v gs w' (hv.below hb))
  have H2 := Lib.hid (fun w' (hb : Below w.heap.size w w') => isNotch_any v gs q w' (hv.below hb))
  have H0 := Lib.hid hs
  have hl := (whB_iff.1 hs).2
  obtain ⟨A, c, rfl, hac, hac', _⟩ := hv.open_
  have g1 : (1 : Int) ≤ (gs.length : Int) := by omega
  have g2 : (gs.length : Int) ≤ 24 := by omega
  have n1 : ¬ gs = [] := fun e => by rw [e] at hl; simp at hl
  have n2 : ((gs.length : Int) == 0) = false := by simp [n1]
  have n3 : ((12 : Int) % (gs.length : Int) != 0) = true := by simpa using hd
  clear hl hd
  have HN := Lib.hid hn
  clear hv hs hn
  go_enter Try.func56, Try.ntmps56
  obtain ⟨k0, k1⟩ := bx2 w 62 27 #[.slice A gs.length c] #[.slice none 0 0, .int .i64 0]
  have HK0 := Lib.hid k0
  have HK1 := Lib.hid k1
  clear k0 k1
  go_wp2_with fail
  refine (H1.out _ (by go_grown)).mono ?_
  rintro e w1 ⟨rfl, hb1⟩
  rw [H0.out]
  have J0 := Lib.hid (HK0.out.below hb1)
  have J1 := Lib.hid (HK1.out.below hb1)
  have q0 := J0.out.cell 0 rfl
  have q2 := J1.out.cell 0 rfl
  have q3 := J1.out.cell 1 rfl
  have f2 := J1.out.frozen 0
  have f3 := J1.out.frozen 1
  have z2 := J1.out.lt
  have B1 : Below w.heap.size w w1 := Below.trans (by go_grown) (hb1.mono (by simp; omega))
  clear hb1 HK0 HK1
  go_wp2_with fail
  refine (H2.out _ B1).mono ?_
  rintro e w2 ⟨rfl, hb2⟩
  rw [HN.out]
  have q0 := (J0.out.below hb2).cell 0 rfl
  have q2 := (J1.out.below hb2).cell 0 rfl
  have q3 := (J1.out.below hb2).cell 1 rfl
  have f2 := (J1.out.below hb2).frozen 0
  have f3 := (J1.out.below hb2).frozen 1
  have z2 := (J1.out.below hb2).lt
  have B2 := B1.trans (hb2.mono B1.size)
  clear hb2
  go_wp2_with (go_at_call 71; refine (within_any _ _ _ _).mono ?_; rintro e w' ⟨rfl, rfl⟩)
  try simp only [Exit.inBlock, Exit.then]
  refine bodyPost_ret (v := .tuple #[.agg #[.slice none 0 0, .int .i64 0], .int .i64 6]) ?_ rfl ?_
  · simp [results, Try.results56, go_sem, q2, q3]
  exact ⟨_, rfl, World.ownsRow_nil _ _ _ _, by go_grown⟩

set_option maxHeartbeats 2000000 in
theorem CopyWheel_s4 (v : Value) (gs : List Int) (q wn : Int) (w : World) (hv : Sl w v gs) (hs : whB gs = true) (hn : inB q 0 ((gs.length : Int) - 1) = true) (hw : inB wn 1 30 = true) (hd : ¬ (12 : Int) % (gs.length : Int) = 0) :
    Calls Try.prog 54 #[.agg #[v], .int .i64 q, .int .i64 wn] w fun e w' => ∃ v', e = .returned (.tuple #[.agg #[v', .int .i64 0], .int .i64 6]) ∧ w'.ownsRow w.heap.size 2 1 v' ([] : List Int).length (I64 ([] : List Int)) ∧ Below w.heap.size w w' := by
  have H1 := Lib.hid (fun w' (hb : Below w.heap.size w w') => l20Code_any v gs q w' (hv.below hb))
  have H0 := Lib.hid (whC_ok hs hn)
  have hl := (whB_iff.1 hs).2
  obtain ⟨A, c, rfl, hac, hac', _⟩ := hv.open_
  have g1 : (1 : Int) ≤ (gs.length : Int) := by omega
  have g2 : (gs.length : Int) ≤ 24 := by omega
  have n1 : ¬ gs = [] := fun e => by rw [e] at hl; simp at hl
  have n2 : ((gs.length : Int) == 0) = false := by simp [n1]
  have n3 : ((12 : Int) % (gs.length : Int) != 0) = true := by simpa using hd
  clear hl hd
  have HN := Lib.hid hn
  clear hv hs hn
  go_enter Try.func54, Try.ntmps54
  obtain ⟨k0, k1⟩ := bx2 w 62 27 #[.slice A gs.length c] #[.slice none 0 0, .int .i64 0]
  have HK0 := Lib.hid k0
  have HK1 := Lib.hid k1
  clear k0 k1
  go_wp2_with fail
  refine (H1.out _ (by go_grown)).mono ?_
  rintro e w1 ⟨rfl, hb1⟩
  rw [H0.out]
  have J0 := Lib.hid (HK0.out.below hb1)
  have J1 := Lib.hid (HK1.out.below hb1)
  have q0 := J0.out.cell 0 rfl
  have q2 := J1.out.cell 0 rfl
  have q3 := J1.out.cell 1 rfl
  have f2 := J1.out.frozen 0
  have f3 := J1.out.frozen 1
  have z2 := J1.out.lt
  have B1 : Below w.heap.size w w1 := Below.trans (by go_grown) (hb1.mono (by simp; omega))
  clear hb1 HK0 HK1
  go_wp2_with (go_at_call 80; refine (l00In_any _ _ _ _).mono ?_; rintro e w' ⟨rfl, rfl⟩)
  try simp only [Exit.inBlock, Exit.then]
  refine bodyPost_ret (v := .tuple #[.agg #[.slice none 0 0, .int .i64 0], .int .i64 6]) ?_ rfl ?_
  · simp [results, Try.results54, go_sem, q2, q3]
  exact ⟨_, rfl, World.ownsRow_nil _ _ _ _, by go_grown⟩

set_option maxRecDepth 100000 in
set_option maxHeartbeats 8000000 in
theorem CopyWheel_i0 (v : Value) (gs : List Int) (q wn : Int) (w : World) (hv : Sl w v gs) (hs : whB gs = true) (hn : inB q 0 ((gs.length : Int) - 1) = true) (hw : inB wn 1 30 = true) (hd : (12 : Int) % (gs.length : Int) = 0) :
    Calls Try.prog 56 #[.agg #[v], .int .i64 q, .int .i64 wn] w fun e w' => ∃ v', e = .returned (.tuple #[.agg #[v', .int .i64 wn], .int .i64 0]) ∧ w'.ownsRow w.heap.size 2 1 v' (cwM gs q 12).length (I64 (cwM gs q 12)) ∧ Below w.heap.size w w' := by
  have hl := (whB_iff.1 hs).2
  have hq := inB_iff.1 hn
  obtain ⟨A, c, rfl, hac, hac', _⟩ := hv.open_
  have g1 : (1 : Int) ≤ (gs.length : Int) := by omega
  have g2 : (gs.length : Int) ≤ 24 := by omega
  have n1 : ¬ gs = [] := fun e => by rw [e] at hl; simp at hl
  have n2 : ((gs.length : Int) == 0) = false := by simp [n1]
  have n3 : ((12 : Int) % (gs.length : Int) != 0) = false := by simp [hd]
  have hq0 := hq.1
  have hq1 : q ≤ 24 := by omega
  have H1 := Lib.hid (fun w' (hb : Below w.heap.size w w') => ValidCountWheel_i _ gs w' (hv.below hb))
  have H2 := Lib.hid (fun w' (hb : Below w.heap.size w w') => isNotch_any _ gs q w' (hv.below hb))
  have H3 := Lib.hid (fun (k : Nat) w' (hb : Below w.heap.size w w') => gapAt_any _ gs (q + (k : Int)) w' (hv.below hb) hl.1 (by omega))
  obtain ⟨i0, hi, hz0, hz1, hz2⟩ := info_parts int_info
  have H0 := Lib.hid hs
  have HN := Lib.hid hn
  clear hv hs hn hd hl hq
  go_enter Try.func56, Try.ntmps56
  obtain ⟨k0, k1⟩ := bx2 w 62 27 #[.slice A gs.length c] #[.slice none 0 0, .int .i64 0]
  have HK0 := Lib.hid k0
  have HK1 := Lib.hid k1
  clear k0 k1
  go_wp2_with fail
  refine (H1.out _ (by go_grown)).mono ?_
  rintro e w1 ⟨rfl, hb1⟩
  rw [H0.out]
  have J0 := Lib.hid (HK0.out.below hb1)
  have J1 := Lib.hid (HK1.out.below hb1)
  have q0 := J0.out.cell 0 rfl
  have q2 := J1.out.cell 0 rfl
  have q3 := J1.out.cell 1 rfl
  have f2 := J1.out.frozen 0
  have f3 := J1.out.frozen 1
  have z2 := J1.out.lt
  have B1 : Below w.heap.size w w1 := Below.trans (by go_grown) (hb1.mono (by simp; omega))
  clear hb1 HK0 HK1
  go_wp2_with fail
  refine (H2.out _ B1).mono ?_
  rintro e w2 ⟨rfl, hb2⟩
  rw [HN.out]
  have K0 := Lib.hid (J0.out.below hb2)
  have K1 := Lib.hid (J1.out.below hb2)
  have q0 := K0.out.cell 0 rfl
  have z1 := K1.out.lt
  have B2 := B1.trans (hb2.mono B1.size)
  clear hb2 J0 J1 q2 q3 f2 f3 z2 B1
  go_wp2_with (first
    | (go_at_call 71; refine (within_any _ _ _ _).mono ?_; rintro e w' ⟨rfl, rfl⟩)
    | (at_make; refine wpList_make_full _ rfl _ _ 22 rfl w2.heap.size 2 i0 _ 1 Try.underlying22 hi hz0 hz1 _ _ _ _ 12 rfl rfl rfl rfl (by rw [hz2]; omega) (by simp only [maxLen]; omega) (Nat.le_refl _) ?_; intro w3 hown hg))
  have hown3 : w3.ownsRow w2.heap.size 2 1 (.slice (some ⟨w2.heap.size, 0, none⟩) 12 12) 12 (I64 (cwI gs q 0)) := by
    rw [cwI_zero, ← I64_replicate, ← toList_madeCells_one]; simpa [Value.cells] using hown
  have B3 : Below w2.heap.size w2 w3 := below_of_grown hg (Nat.le_refl _) (fun k hk => by cases hk)
  have z3 : w2.heap.size < w3.heap.size := (hown3.lt w2.heap.size rfl).2
  have M0 := Lib.hid (K0.out.below B3)
  have M1 := Lib.hid (K1.out.below B3)
  have HO3 := Lib.hid hown3
  clear hown hown3 hg q0
  go_wp2_with fail
  go_loopw [9] (fun i wr => ∃ k : Nat, k ≤ 12 ∧ i = .int .i64 k ∧ Blk wr w.heap.size 62 #[.slice A gs.length c] ∧ Blk wr (w.heap.size + 1) 27 #[.slice none 0 0, .int .i64 0] ∧ Blk wr w3.heap.size 27 #[.slice (some ⟨w2.heap.size, 0, none⟩) 12 12, .int .i64 wn] ∧ wr.ownsRow w2.heap.size 2 1 (.slice (some ⟨w2.heap.size, 0, none⟩) 12 12) 12 (I64 (cwI gs q k)) ∧ Below w.heap.size w wr) (fun i _ => 12 - (intOf i).toNat)
  case atStart => exact ⟨0, by omega, by go_num, M0.out.alloc _, M1.out.alloc _, Blk.new _ _ _, HO3.out.alloc _, (B2.trans (B3.mono B2.size)).alloc (by have := B2.size; omega) _⟩
  case round =>
    obtain ⟨k, hk, rfl, b0, b1, b2, hown, hB⟩ := hrel
    have z4 := b2.lt
    by_cases hlt : k < 12
    · have i0 : (k : Int) < 12 := by omega
      have i2 : 0 ≤ ((k : Int) + 1) % 12 ∧ ((k : Int) + 1) % 12 < 12 := by omega
      obtain ⟨i3, i4⟩ := i2
      have e3 : (((k : Int) + 1) % 12).toNat = (k + 1) % 12 := by omega
      have q0 := b0.cell 0 rfl
      have q1 := b2.cell 0 rfl
      have q2 := b2.cell 1 rfl
      have e0 : IntKind.i64.wrap ((k : Int) + 1) = (k : Int) + 1 := IntWalk.i64_in _ (by omega)
      have e1 : ((k : Int) + 1).tmod 12 = ((k : Int) + 1) % 12 := IntWalk.rem_in _ _ (by omega)
      have e2 : IntKind.i64.wrap (((k : Int) + 1) % 12) = ((k : Int) + 1) % 12 := IntWalk.i64_in _ (by omega)
      have e4 : IntKind.i64.wrap (q + (k : Int)) = q + (k : Int) := IntWalk.i64_in _ (by omega)
      have HE := Lib.hid e3
      have G0 := Lib.hid b0
      have G1 := Lib.hid b1
      have G2 := Lib.hid b2
      have HO := Lib.hid hown
      have HSr := Lib.hid (fun (w' : World) (hw : Below wr.heap.size wr w') => (⟨(b0.below hw).cell 0 rfl, (b2.below hw).cell 0 rfl⟩ : w'.cell? ⟨w.heap.size, 0, none⟩ = some (.slice A gs.length c) ∧ w'.cell? ⟨w3.heap.size, 0, none⟩ = some (.slice (some ⟨w2.heap.size, 0, none⟩) 12 12)))
      have n4 : ¬ w2.heap.size = w.heap.size := by omega
      have n5 : ¬ w2.heap.size = w3.heap.size := by omega
      have n6 : ¬ w.heap.size = w2.heap.size := by omega
      have n7 : ¬ w3.heap.size = w2.heap.size := by omega
      clear b0 b1 b2 hown e3
      go_wp2_with fail
      go_region_held3 (fun w' => w'.cell? ⟨w.heap.size, 0, none⟩ = some (.slice A gs.length c) ∧ w'.cell? ⟨w3.heap.size, 0, none⟩ = some (.slice (some ⟨w2.heap.size, 0, none⟩) 12 12)) (first | assumption | (refine HSr.out _ ?_; go_grown; done) | ((try dsimp only); (repeat' apply And.intro) <;> (first | assumption | (simp [go_sem, *]; done))) | go_keep)
        (first
          | (go_at_call 89; refine (H3.out k _ (by first | exact hB | exact hB.drew)).mono ?_; rintro e w5 ⟨rfl, hb5⟩; have B5 : Below wr.heap.size wr w5 := Below.trans (by go_grown) (hb5.mono (by simp)); have S5 := HSr.out _ B5; have O5 := own_below HO.out B5; have co := O5.cellAt ((((k : Int) + 1) % 12).toNat) (by omega); rw [I64_get (by rw [cwI_length]; omega)] at co; have fz := O5.frozenAt ((((k : Int) + 1) % 12).toNat); have T5 := O5.stored ((((k : Int) + 1) % 12).toNat) (.int .i64 (gapM gs (q + (k : Int)))); rw [HE.out, cwI_set hlt] at T5; rw [← HE.out] at T5; have HT := Lib.hid T5.1; clear T5 O5 hb5))
      all_goals
        have L0 := Lib.hid (G0.out.below B5)
        have L1 := Lib.hid (G1.out.below B5)
        have L2 := Lib.hid (G2.out.below B5)
        have B6 := hB.trans (B5.mono hB.size)
        clear co fz S5 e0 e1 e2 e4
        go_wp2
        go_roundw
        case rel =>
          refine ⟨k + 1, by omega, by go_num, ?_, ?_, ?_, ?_, ?_⟩
          · refine Blk.far L0.out ?_ _; simp; omega
          · refine Blk.far L1.out ?_ _; simp; omega
          · refine Blk.far L2.out ?_ _; simp; omega
          · exact HT.out
          · exact B6.setCell (by simp; omega) _
        case measure => simp [intOf]; omega
    · obtain rfl : k = 12 := by omega
      have q1 := b2.cell 0 rfl
      have q4 := b2.cell 1 rfl
      have q2 := b1.cell 0 rfl
      have q3 := b1.cell 1 rfl
      have f2 := b1.frozen 0
      have f3 := b1.frozen 1
      have z5 := b1.lt
      have HO := Lib.hid hown
      clear hown b0 b1 b2
      go_wp2
      try simp only [Exit.inBlock, Exit.then]
      refine bodyPost_ret (v := .tuple #[.agg #[.slice (some ⟨w2.heap.size, 0, none⟩) 12 12, .int .i64 wn], .int .i64 0]) ?_ rfl ?_
      · simp [results, Try.results56, go_sem, q2, q3]
      refine ⟨_, rfl, ?_, by go_grown⟩
      rw [← cwI_all, cwI_length]
      exact own_mono (own_setCell (own_setCell HO.out (by simp; omega) _) (by simp; omega) _) (by omega)

set_option maxRecDepth 100000 in
set_option maxHeartbeats 8000000 in
theorem CopyWheel_s0 (v : Value) (gs : List Int) (q wn : Int) (w : World) (hv : Sl w v gs) (hs : whB gs = true) (hn : inB q 0 ((gs.length : Int) - 1) = true) (hw : inB wn 1 30 = true) (hd : (12 : Int) % (gs.length : Int) = 0) :
    Calls Try.prog 54 #[.agg #[v], .int .i64 q, .int .i64 wn] w fun e w' => ∃ v', e = .returned (.tuple #[.agg #[v', .int .i64 wn], .int .i64 0]) ∧ w'.ownsRow w.heap.size 2 1 v' (cwM gs q 12).length (I64 (cwM gs q 12)) ∧ Below w.heap.size w w' := by
  have hl := (whB_iff.1 hs).2
  have hq := inB_iff.1 hn
  obtain ⟨A, c, rfl, hac, hac', _⟩ := hv.open_
  have g1 : (1 : Int) ≤ (gs.length : Int) := by omega
  have g2 : (gs.length : Int) ≤ 24 := by omega
  have n1 : ¬ gs = [] := fun e => by rw [e] at hl; simp at hl
  have n2 : ((gs.length : Int) == 0) = false := by simp [n1]
  have n3 : ((12 : Int) % (gs.length : Int) != 0) = false := by simp [hd]
  have hq0 := hq.1
  have hq1 : q ≤ 24 := by omega
  have H1 := Lib.hid (fun w' (hb : Below w.heap.size w w') => l20Code_any _ gs q w' (hv.below hb))
  have H2 := Lib.hid (fun w' (hb : Below w.heap.size w w') => l20Many_any _ gs q 12 w' (hv.below hb) hl.1 hq0 (by omega) (by omega))
  have H0 := Lib.hid (whC_ok hs hn)
  have HM := Lib.hid (fun (u : Int) => l19Mod_any u 12)
  clear hv hs hn hd hl hq
  go_enter Try.func54, Try.ntmps54
  obtain ⟨k0, k1⟩ := bx2 w 62 27 #[.slice A gs.length c] #[.slice none 0 0, .int .i64 0]
  have HK0 := Lib.hid k0
  have HK1 := Lib.hid k1
  clear k0 k1
  go_wp2_with fail
  refine (H1.out _ (by go_grown)).mono ?_
  rintro e w1 ⟨rfl, hb1⟩
  rw [H0.out]
  have J0 := Lib.hid (HK0.out.below hb1)
  have J1 := Lib.hid (HK1.out.below hb1)
  have q0 := J0.out.cell 0 rfl
  have q2 := J1.out.cell 0 rfl
  have q3 := J1.out.cell 1 rfl
  have f2 := J1.out.frozen 0
  have f3 := J1.out.frozen 1
  have z2 := J1.out.lt
  have B1 : Below w.heap.size w w1 := Below.trans (by go_grown) (hb1.mono (by simp; omega))
  clear hb1 HK0 HK1
  go_wp2_with (go_at_call 80; refine (l00In_any _ _ _ _).mono ?_; rintro e w' ⟨rfl, rfl⟩)
  refine (H2.out _ B1).mono ?_
  rintro e w2 ⟨vm, rfl, om, hb2⟩
  obtain ⟨Am, cm, rfl⟩ := own_form om
  have lm := manyM_length gs q 12
  obtain ⟨Bm, dm, hvm, hm1, hm2, HMm⟩ := (Sl.of_own om).open_
  obtain ⟨bm, pm, hA, hbm, hcm⟩ := HMm.out 0 (by omega)
  injection hvm with hvA hvn hvc
  subst hvA hvc hA
  rw [lm] at hm1 om hcm ⊢
  have K0 := Lib.hid (J0.out.below hb2)
  have K1 := Lib.hid (J1.out.below hb2)
  have z1 := K1.out.lt
  have B2 := B1.trans (hb2.mono B1.size)
  have HC := Lib.hid hcm
  clear hb2 J0 J1 q0 q2 q3 f2 f3 z2 B1 HMm hcm om hvn lm
  go_wp2_with fail
  go_loopw [11] (fun i wr => ∃ k : Nat, k ≤ 12 ∧ i = .int .i64 k ∧ ∃ x, Blk wr (w.heap.size + 1) 27 #[.slice none 0 0, .int .i64 0] ∧ Blk wr w2.heap.size 27 #[x, .int .i64 wn] ∧ wr.ownsRow (w2.heap.size + 1) 2 1 x (cwM gs q k).length (I64 (cwM gs q k)) ∧ Below w2.heap.size w2 wr) (fun i _ => 12 - (intOf i).toNat)
  case atStart => exact ⟨0, by omega, by go_num, _, K1.out.alloc _, Blk.new _ _ _, World.ownsRow_nil _ _ _ _, by go_grown⟩
  case round =>
    obtain ⟨k, hk, rfl, x, b1, b2, hown, hB⟩ := hrel
    obtain ⟨Ax, cx, rfl⟩ := own_form hown
    have z4 := b2.lt
    by_cases hlt : k < 12
    · have i0 : (k : Int) < 12 := by omega
      have e4 : IntKind.i64.wrap ((k : Int) - 1) = (k : Int) - 1 := IntWalk.i64_in _ (by omega)
      have i2 : 0 ≤ ((k : Int) - 1) % 12 ∧ ((k : Int) - 1) % 12 < 12 := by omega
      obtain ⟨i3, i4⟩ := i2
      have e3 : (((k : Int) - 1) % 12).toNat = (k + 11) % 12 := by omega
      have hce : w2.cell? ⟨bm, pm + (((k : Int) - 1) % 12).toNat, none⟩ = some (.int .i64 (gapM gs (q + (((k + 11) % 12 : Nat) : Int)))) := by
        rw [e3, HC.out _ (by omega), ix_manyM (by omega)]
      have HSr := Lib.hid (fun (w' : World) (hw : Below (w2.heap.size + 1) wr w') => (⟨(b2.belowB hw (by omega)).cell 0 rfl, (World.cell?_of_block (a := ⟨bm, pm + (((k : Int) - 1) % 12).toNat, none⟩) (hw.block bm (by omega))).trans ((hB.cell (p := ⟨bm, pm + (((k : Int) - 1) % 12).toNat, none⟩) hbm).trans hce)⟩ : w'.cell? ⟨w2.heap.size, 0, none⟩ = some (.slice Ax (cwM gs q k).length cx) ∧ w'.cell? ⟨bm, pm + (((k : Int) - 1) % 12).toNat, none⟩ = some (.int .i64 (gapM gs (q + (((k + 11) % 12 : Nat) : Int))))))
      have hsz : w2.heap.size + 1 ≤ wr.heap.size := by omega
      obtain ⟨q1, q4⟩ := HSr.out wr (Below.refl _ _)
      have HMs := Lib.hid (cwM_succ gs q k)
      have hll : (cwM gs q k).length ≤ 134217728 := by rw [cwM_length]; omega
      have HO := Lib.hid hown
      have HK1 := Lib.hid b1
      have HK2 := Lib.hid b2
      clear hown b1 b2 hce e3
      go_wp2_with fail
      go_region_law
        ((first
          | (refine step_call2 rfl 77 _ _ _ _ (by rfl) _ _ (.int .i64 (((k : Int) - 1) % 12)) (by rfl) (by rfl) _ Try.func77 (by kernel_rfl) (by kernel_rfl) (HM.out ((k : Int) - 1) _ (by omega) (by omega) (by omega) (by omega)) ?_)
          | (refine step_app1 rfl _ _ (by rfl) (w2.heap.size + 1) _ (cwM gs q k) (by rfl) ((HO.out.alloc _).drew) _ wr.heap.size (by rfl) (heap_alloc_new wr _) hll (by simp; omega) ?_; intro b3 c3 w3 hown3 hb3 hg3; have B3 : Below (w2.heap.size + 1) wr w3 := Below.trans (by go_grown) hb3; have g2 := HK2.out.belowB B3 (Nat.lt_succ_self _); have r2 := g2.cell 0 rfl; have t2 := g2.frozen 0)))
      all_goals
        have HO3 := Lib.hid hown3
        have HB3 := Lib.hid B3
        have HG2 := Lib.hid g2
        clear hown3 hb3 hg3 B3 g2
        go_wp2
        go_roundw
        case rel =>
          refine ⟨k + 1, by omega, by go_num, .slice (some ⟨b3, 0, none⟩) ((cwM gs q k).length + 1) c3, ?_, ?_, ?_, ?_⟩
          · refine Blk.far (HK1.out.belowB HB3.out (by omega)) ?_ _; simp; omega
          · exact HG2.out.set_ 0 _
          · rw [HMs.out]
            exact own_setCell (by simpa using HO3.out) (by simp) _
          · exact (hB.trans (HB3.out.mono (by omega))).setCell (by simp) _
        case measure => simp [intOf]; omega
    · obtain rfl : k = 12 := by omega
      have q1 := b2.cell 0 rfl
      have q4 := b2.cell 1 rfl
      have q2 := b1.cell 0 rfl
      have q3 := b1.cell 1 rfl
      have f2 := b1.frozen 0
      have f3 := b1.frozen 1
      have z5 := b1.lt
      have HO := Lib.hid hown
      have B4 := B2.trans (hB.mono B2.size)
      clear hown b1 b2
      go_wp2
      try simp only [Exit.inBlock, Exit.then]
      refine bodyPost_ret (v := .tuple #[.agg #[.slice Ax (cwM gs q 12).length cx, .int .i64 wn], .int .i64 0]) ?_ rfl ?_
      · simp [results, Try.results54, go_sem, q2, q3]
      exact ⟨_, rfl, own_mono (own_setCell (own_setCell HO.out (by simp; omega) _) (by simp; omega) _) (by omega), by go_grown⟩

theorem CopyWheel_both (gs : List Int) (q wn : Int) : ∃ (rl : List Int) (rw rc : Int), rl.length ≤ 3000 ∧
    (∀ v w, Sl w v gs → Calls Try.prog 56 #[.agg #[v], .int .i64 q, .int .i64 wn] w fun e w' => ∃ v', e = .returned (.tuple #[.agg #[v', .int .i64 rw], .int .i64 rc]) ∧ w'.ownsRow w.heap.size 2 1 v' rl.length (I64 rl) ∧ Below w.heap.size w w') ∧
    (∀ v w, Sl w v gs → Calls Try.prog 54 #[.agg #[v], .int .i64 q, .int .i64 wn] w fun e w' => ∃ v', e = .returned (.tuple #[.agg #[v', .int .i64 rw], .int .i64 rc]) ∧ w'.ownsRow w.heap.size 2 1 v' rl.length (I64 rl) ∧ Below w.heap.size w w') := by
  cases hs : whB gs with
  | false => exact ⟨[], _, _, Nat.zero_le _, fun v w hv => CopyWheel_i1 v gs q wn w hv hs, fun v w hv => CopyWheel_s1 v gs q wn w hv hs⟩
  | true =>
    cases hn : inB q 0 ((gs.length : Int) - 1) with
    | false => exact ⟨[], _, _, Nat.zero_le _, fun v w hv => CopyWheel_i2 v gs q wn w hv hs hn, fun v w hv => CopyWheel_s2 v gs q wn w hv hs hn⟩
    | true =>
      cases hw : inB wn 1 30 with
      | false => exact ⟨[], _, _, Nat.zero_le _, fun v w hv => CopyWheel_i3 v gs q wn w hv hs hn hw, fun v w hv => CopyWheel_s3 v gs q wn w hv hs hn hw⟩
      | true =>
        by_cases hd : (12 : Int) % (gs.length : Int) = 0
        · exact ⟨cwM gs q 12, _, _, by rw [cwM_length]; omega, fun v w hv => CopyWheel_i0 v gs q wn w hv hs hn hw hd, fun v w hv => CopyWheel_s0 v gs q wn w hv hs hn hw hd⟩
        · exact ⟨[], _, _, Nat.zero_le _, fun v w hv => CopyWheel_i4 v gs q wn w hv hs hn hw hd, fun v w hv => CopyWheel_s4 v gs q wn w hv hs hn hw hd⟩
end Go.Proofs.Ytipakagmbppagaa
