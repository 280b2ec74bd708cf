/- Hands: MoveHands, in the program and in the reference. -/
import Derived.Test.YtfddibdncniekaaDoorHnM
import Derived.Laws.IdiomStrings
import Derived.Deep.DeepCutAuto
import Derived.Deep.DrawnRows
namespace Go.Proofs.YtfddibdncniekaaDoor
open Go.RowKit
attribute [local go_sem ↓] Go.wp_at_zero Go.wp_at_succ

/-- The state behind an action, and its blows. -/
def stpB (gs : List Int) (b : UInt8) (x : Int × Int) : Int × Int := if b = 98 then (deH x.1, x.2) else (if b = 102 then inH x.1 else x.1, nxQ gs x.2)
def stpN (gs : List Int) (b : UInt8) (x : Int × Int) : Int := if b = 98 then 0 else gapM gs x.2
theorem stpB_in {gs : List Int} (h1 : 1 ≤ gs.length) (b : UInt8) {x : Int × Int} (hx : hsB gs x.1 x.2 = true) : hsB gs (stpB gs b x).1 (stpB gs b x).2 = true := by
  obtain ⟨g0, g3, g4⟩ := hsB_iff.1 hx
  unfold stpB
  split
  · exact hsB_iff.2 ⟨deH_in _, g3, g4⟩
  · dsimp only
    split
    · exact hs_in h1 (inH_in _)
    · exact hs_in h1 ⟨g0.1, by omega⟩
theorem stpN_in {gs : List Int} (hw : whB gs = true) (b : UInt8) (x : Int × Int) : 0 ≤ stpN gs b x ∧ stpN gs b x ≤ 12 := by
  have := gapM_in hw x.2
  unfold stpN
  split <;> omega
/-- The state after k actions, and the blows on the way. -/
def mvS (gs : List Int) (s : ByteArray) (h q : Int) : Nat → Int × Int
  | 0 => (h, q)
  | k + 1 => stpB gs (bY s k) (mvS gs s h q k)
def mvN (gs : List Int) (s : ByteArray) (h q : Int) (k : Nat) : Int := stpN gs (bY s k) (mvS gs s h q k)
def mvL (gs : List Int) (s : ByteArray) (h q : Int) : Nat → List Int
  | 0 => []
  | k + 1 => if 0 < mvN gs s h q k then mvL gs s h q k ++ [mvN gs s h q k] else mvL gs s h q k
theorem mvL_pos {gs : List Int} {s : ByteArray} {h q : Int} {k : Nat} (hp : 0 < mvN gs s h q k) : mvL gs s h q (k + 1) = mvL gs s h q k ++ [mvN gs s h q k] := by rw [mvL, if_pos hp]
theorem mvL_non {gs : List Int} {s : ByteArray} {h q : Int} {k : Nat} (hp : ¬ 0 < mvN gs s h q k) : mvL gs s h q (k + 1) = mvL gs s h q k := by rw [mvL, if_neg hp]
theorem mvL_length (gs : List Int) (s : ByteArray) (h q : Int) (k : Nat) : (mvL gs s h q k).length ≤ k := by
  induction k with
  | zero => simp [mvL]
  | succ k ih => rw [mvL]; split <;> (try simp) <;> omega
theorem mvS_in {gs : List Int} (h1 : 1 ≤ gs.length) (s : ByteArray) {h q : Int} (hx : hsB gs h q = true) (k : Nat) : hsB gs (mvS gs s h q k).1 (mvS gs s h q k).2 = true := by
  induction k with
  | zero => exact hx
  | succ k ih => exact stpB_in h1 _ ih
theorem kn1_cases {b : UInt8} (h : kn1 b = true) : b = 98 ∨ b = 102 ∨ b = 108 := by
  rw [kn1, Bool.or_eq_true, Bool.or_eq_true, beq_iff_eq, beq_iff_eq, beq_iff_eq] at h
  rcases h with (h | h) | h
  · exact .inl h
  · exact .inr (.inl h)
  · exact .inr (.inr h)
theorem knB_at {s : ByteArray} (h : knB s = true) {k : Nat} (hk : k < s.size) : kn1 (bY s k) = true := by
  rw [knB, List.all_eq_true] at h
  exact h _ (by rw [bY_eq hk]; exact List.getElem_mem _)

/-- Block g holds the bytes of a text. -/
def ByB (w : World) (g : Nat) (s : ByteArray) : Prop := ∃ C t fr, w.heap[g]? = some (.cells C t fr) ∧ ∀ k, (hk : k < s.size) → C[k]? = some (.int .u8 s[k].toNat)
section
variable {w w' : World} {g : Nat} {s : ByteArray}
theorem ByB.lt (h : ByB w g s) : g < w.heap.size := by
  obtain ⟨C, t, fr, h, _⟩ := h
  rcases Nat.lt_or_ge g w.heap.size with hlt | hge
  · exact hlt
  · rw [Array.getElem?_eq_none hge] at h; cases h
theorem ByB.cell (h : ByB w g s) {k : Nat} (hk : k < s.size) : w.cell? ⟨g, k, none⟩ = some (.int .u8 s[k].toNat) := by
  obtain ⟨C, t, fr, h, hc⟩ := h
  exact (cell_of_row w g k C t fr h).trans (hc k hk)
theorem ByB.alloc (h : ByB w g s) (o : Obj) : ByB (w.alloc o) g s := by
  have hl := h.lt
  obtain ⟨C, t, fr, h, hc⟩ := h
  exact ⟨C, t, fr, (Below.heap_alloc w o g hl).trans h, hc⟩
theorem ByB.far (h : ByB w g s) {p : Addr} (hp : g ≠ p.block) (u : Value) : ByB (w.setCell p u) g s := by
  obtain ⟨C, t, fr, h, hc⟩ := h
  exact ⟨C, t, fr, (Below.heap_setCell w p u g hp).trans h, hc⟩
theorem ByB.belowB {B : Nat} (h : ByB w g s) (hb : Below B w w') (hg : g < B) : ByB w' g s := by
  obtain ⟨C, t, fr, h, hc⟩ := h
  exact ⟨C, t, fr, (hb.block g hg).trans h, hc⟩
theorem ByB.below (h : ByB w g s) (hb : Below w.heap.size w w') : ByB w' g s := h.belowB hb h.lt
theorem ByB.drew (h : ByB w g s) : ByB w.drew g s := h
theorem ByB.new (w : World) (s : ByteArray) (c : Nat) (t : TypeId) (fr : Nat × Nat) : ByB (w.alloc (.cells (bytesRow s c) t fr)) w.heap.size s := by
  refine ⟨_, t, fr, heap_alloc_new w _, fun k hk => ?_⟩
  exact bytesRow_at s c k hk
end

theorem act_any (v : Value) (gs : List Int) (b : UInt8) (x : Int × Int) (w : World) (hv : Sl w v gs) (h1 : 1 ≤ gs.length) (hx : hsB gs x.1 x.2 = true) (hb : kn1 b = true) :
    Calls Tryd.prog 57 #[.agg #[v], .agg #[.int .i64 x.1, .int .i64 x.2], .int .u8 b.toNat] w fun e w' => e = .returned (.tuple #[.agg #[.int .i64 (stpB gs b x).1, .int .i64 (stpB gs b x).2], .int .i64 (stpN gs b x)]) ∧ Below w.heap.size w w' := by
  rcases kn1_cases hb with rfl | rfl | rfl
  · exact act_b v gs x.1 x.2 w hv h1 hx
  · exact act_f v gs x.1 x.2 w hv h1 hx
  · exact act_l v gs x.1 x.2 w hv h1 hx
theorem act_mv (v : Value) (gs : List Int) (s : ByteArray) (h q : Int) (k : Nat) (w : World) (hv : Sl w v gs) (h1 : 1 ≤ gs.length) (hx : hsB gs h q = true) (hs : knB s = true) (hk : k < s.size) :
    Calls Tryd.prog 57 #[.agg #[v], .agg #[.int .i64 (mvS gs s h q k).1, .int .i64 (mvS gs s h q k).2], .int .u8 s[k].toNat] w fun e w' => e = .returned (.tuple #[.agg #[.int .i64 (mvS gs s h q (k + 1)).1, .int .i64 (mvS gs s h q (k + 1)).2], .int .i64 (mvN gs s h q k)]) ∧ Below w.heap.size w w' := by
  have e := act_any v gs (bY s k) (mvS gs s h q k) w hv h1 (mvS_in h1 s hx k) (knB_at hs hk)
  have e2 : s[k] = bY s k := by rw [bY_eq hk]; rfl
  rw [e2]
  exact e

theorem l23Step_any (v : Value) (gs : List Int) (b : UInt8) (x : Int × Int) (w : World) (hv : Sl w v gs) (h1 : 1 ≤ gs.length) (hx : hsB gs x.1 x.2 = true) (hb : kn1 b = true) :
    Calls Tryd.prog 54 #[.agg #[v], .agg #[.int .i64 x.1, .int .i64 x.2], .int .u8 b.toNat] w fun e w' => e = .returned (.tuple #[.agg #[.int .i64 (stpB gs b x).1, .int .i64 (stpB gs b x).2], .int .i64 (stpN gs b x)]) ∧ Below w.heap.size w w' := by
  rcases kn1_cases hb with rfl | rfl | rfl
  · exact l23Step_b v gs x.1 x.2 w hv h1 hx
  · exact l23Step_f v gs x.1 x.2 w hv h1 hx
  · exact l23Step_l v gs x.1 x.2 w hv h1 hx
theorem l23Step_mv (v : Value) (gs : List Int) (s : ByteArray) (h q : Int) (k : Nat) (w : World) (hv : Sl w v gs) (h1 : 1 ≤ gs.length) (hx : hsB gs h q = true) (hs : knB s = true) (hk : k < s.size) :
    Calls Tryd.prog 54 #[.agg #[v], .agg #[.int .i64 (mvS gs s h q k).1, .int .i64 (mvS gs s h q k).2], .int .u8 s[k].toNat] w fun e w' => e = .returned (.tuple #[.agg #[.int .i64 (mvS gs s h q (k + 1)).1, .int .i64 (mvS gs s h q (k + 1)).2], .int .i64 (mvN gs s h q k)]) ∧ Below w.heap.size w w' := by
  have e := l23Step_any v gs (bY s k) (mvS gs s h q k) w hv h1 (mvS_in h1 s hx k) (knB_at hs hk)
  have e2 : s[k] = bY s k := by rw [bY_eq hk]; rfl
  rw [e2]
  exact e

set_option maxHeartbeats 2000000 in
theorem MoveHands_i1 (v : Value) (gs : List Int) (h q : Int) (s : ByteArray) (w : World) (hv : Sl w v gs) (_ : s.size ≤ 1073741824) (hs : hnB gs h q = false) :
    Calls Tryd.prog 16 #[.agg #[v], .agg #[.int .i64 h, .int .i64 q], .string s] w fun e w' => ∃ v', e = .returned (.tuple #[.agg #[.int .i64 0, .int .i64 0], v', .int .i64 1]) ∧ w'.ownsRow w.heap.size 2 1 v' ([] : List Int).length (I64 []) ∧ Below w.heap.size w w' := by
  have H1 := Lib.hid (fun w' (hb : Below w.heap.size w w') => ValidHands_i v gs h q w' (hv.below hb))
  have HB := Lib.hid hs
  clear hv hs
  go_enter Tryd.func16, Tryd.ntmps16
  obtain ⟨k0, k1, k2⟩ := bx3 w 31 28 28 #[v] #[.int .i64 h, .int .i64 q] #[.int .i64 0, .int .i64 0]
  have HK0 := Lib.hid k0
  have HK1 := Lib.hid k1
  have HK2 := Lib.hid k2
  clear k0 k1 k2
  go_wp2_with fail
  refine (H1.out _ (by go_grown)).mono ?_
  rintro e w1 ⟨rfl, hb1⟩
  rw [HB.out]
  have j2 := HK2.out.below hb1
  have J0 := Lib.hid (HK0.out.below hb1)
  have J1 := Lib.hid (HK1.out.below hb1)
  have J2 := Lib.hid j2
  have q4 := j2.cell 0 rfl
  have q5 := j2.cell 1 rfl
  have f4 := j2.frozen 0
  have f5 := j2.frozen 1
  have z2 := j2.lt
  have B1 : Below w.heap.size w w1 := Below.trans (by go_grown) (hb1.mono (by simp; omega))
  clear j2 hb1 HK0 HK1 HK2
  go_wp2
  try simp only [Exit.inBlock, Exit.then]
  refine bodyPost_ret (v := .tuple #[.agg #[.int .i64 0, .int .i64 0], .slice none 0 0, .int .i64 1]) ?_ rfl ?_
  · simp [results, Tryd.results16, go_sem, q4, q5]
  exact ⟨_, rfl, ⟨rfl, .inl ⟨rfl, rfl⟩⟩, by go_grown⟩

set_option maxHeartbeats 2000000 in
theorem MoveHands_i2 (v : Value) (gs : List Int) (h q : Int) (s : ByteArray) (w : World) (hv : Sl w v gs) (hsz : s.size ≤ 1073741824) (hs : hnB gs h q = true) (hn : 60 < s.size) :
    Calls Tryd.prog 16 #[.agg #[v], .agg #[.int .i64 h, .int .i64 q], .string s] w fun e w' => ∃ v', e = .returned (.tuple #[.agg #[.int .i64 0, .int .i64 0], v', .int .i64 2]) ∧ w'.ownsRow w.heap.size 2 1 v' ([] : List Int).length (I64 []) ∧ Below w.heap.size w w' := by
  have H1 := Lib.hid (fun w' (hb : Below w.heap.size w w') => ValidHands_i v gs h q w' (hv.below hb))
  have HB := Lib.hid hs
  have e1 : ¬ (s.size : Int) ≤ 60 := by omega
  have e2 : (60 : Int) < (s.size : Int) := by omega
  clear hv hs
  go_enter Tryd.func16, Tryd.ntmps16
  obtain ⟨k0, k1, k2⟩ := bx3 w 31 28 28 #[v] #[.int .i64 h, .int .i64 q] #[.int .i64 0, .int .i64 0]
  have HK0 := Lib.hid k0
  have HK1 := Lib.hid k1
  have HK2 := Lib.hid k2
  clear k0 k1 k2
  go_wp2_with fail
  refine (H1.out _ (by go_grown)).mono ?_
  rintro e w1 ⟨rfl, hb1⟩
  rw [HB.out]
  have j2 := HK2.out.below hb1
  have J0 := Lib.hid (HK0.out.below hb1)
  have J1 := Lib.hid (HK1.out.below hb1)
  have J2 := Lib.hid j2
  have q4 := j2.cell 0 rfl
  have q5 := j2.cell 1 rfl
  have f4 := j2.frozen 0
  have f5 := j2.frozen 1
  have z2 := j2.lt
  have B1 : Below w.heap.size w w1 := Below.trans (by go_grown) (hb1.mono (by simp; omega))
  clear j2 hb1 HK0 HK1 HK2
  go_wp2
  try simp only [Exit.inBlock, Exit.then]
  refine bodyPost_ret (v := .tuple #[.agg #[.int .i64 0, .int .i64 0], .slice none 0 0, .int .i64 2]) ?_ rfl ?_
  · simp [results, Tryd.results16, go_sem, q4, q5]
  exact ⟨_, rfl, ⟨rfl, .inl ⟨rfl, rfl⟩⟩, by go_grown⟩

set_option maxHeartbeats 2000000 in
theorem MoveHands_i7 (v : Value) (gs : List Int) (h q : Int) (s : ByteArray) (w : World) (hv : Sl w v gs) (hsz : s.size ≤ 1073741824) (hs : hnB gs h q = true) (hn : s.size ≤ 60) (hk : knB s = false) :
    Calls Tryd.prog 16 #[.agg #[v], .agg #[.int .i64 h, .int .i64 q], .string s] w fun e w' => ∃ v', e = .returned (.tuple #[.agg #[.int .i64 0, .int .i64 0], v', .int .i64 7]) ∧ w'.ownsRow w.heap.size 2 1 v' ([] : List Int).length (I64 []) ∧ Below w.heap.size w w' := by
  have H1 := Lib.hid (fun w' (hb : Below w.heap.size w w') => ValidHands_i v gs h q w' (hv.below hb))
  have HB := Lib.hid hs
  have e1 : (s.size : Int) ≤ 60 := by omega
  have e2 : ¬ (60 : Int) < (s.size : Int) := by omega
  have HKN := Lib.hid hk
  have HN := Lib.hid (fun w' => areActions_any s w' (by omega : s.size ≤ 9223372036854775807))
  clear hv hs
  go_enter Tryd.func16, Tryd.ntmps16
  obtain ⟨k0, k1, k2⟩ := bx3 w 31 28 28 #[v] #[.int .i64 h, .int .i64 q] #[.int .i64 0, .int .i64 0]
  have HK0 := Lib.hid k0
  have HK1 := Lib.hid k1
  have HK2 := Lib.hid k2
  clear k0 k1 k2
  go_wp2_with fail
  refine (H1.out _ (by go_grown)).mono ?_
  rintro e w1 ⟨rfl, hb1⟩
  rw [HB.out]
  have j2 := HK2.out.below hb1
  have J0 := Lib.hid (HK0.out.below hb1)
  have J1 := Lib.hid (HK1.out.below hb1)
  have J2 := Lib.hid j2
  have q4 := j2.cell 0 rfl
  have q5 := j2.cell 1 rfl
  have f4 := j2.frozen 0
  have f5 := j2.frozen 1
  have z2 := j2.lt
  have B1 : Below w.heap.size w w1 := Below.trans (by go_grown) (hb1.mono (by simp; omega))
  clear j2 hb1 HK0 HK1 HK2
  go_wp2_with fail
  refine (HN.out _).mono ?_
  rintro e w2 ⟨rfl, hb2⟩
  rw [HKN.out]
  have j2 := J2.out.below hb2
  have q4 := j2.cell 0 rfl
  have q5 := j2.cell 1 rfl
  have f4 := j2.frozen 0
  have f5 := j2.frozen 1
  have z2 := j2.lt
  have K0 := Lib.hid (J0.out.below hb2)
  have K1 := Lib.hid (J1.out.below hb2)
  have K2 := Lib.hid j2
  have B2 : Below w.heap.size w w2 := B1.trans (hb2.mono B1.size)
  clear j2 hb2 J0 J1 J2 B1
  go_wp2
  try simp only [Exit.inBlock, Exit.then]
  refine bodyPost_ret (v := .tuple #[.agg #[.int .i64 0, .int .i64 0], .slice none 0 0, .int .i64 7]) ?_ rfl ?_
  · simp [results, Tryd.results16, go_sem, q4, q5]
  exact ⟨_, rfl, ⟨rfl, .inl ⟨rfl, rfl⟩⟩, by go_grown⟩

set_option maxHeartbeats 2000000 in
theorem MoveHands_s1 (v : Value) (gs : List Int) (h q : Int) (s : ByteArray) (w : World) (hv : Sl w v gs) (_ : s.size ≤ 1073741824) (hs : hnB gs h q = false) :
    Calls Tryd.prog 13 #[.agg #[v], .agg #[.int .i64 h, .int .i64 q], .string s] w fun e w' => ∃ v', e = .returned (.tuple #[.agg #[.int .i64 0, .int .i64 0], v', .int .i64 1]) ∧ w'.ownsRow w.heap.size 2 1 v' ([] : List Int).length (I64 []) ∧ Below w.heap.size w w' := by
  have H1 := Lib.hid (fun w' (hb : Below w.heap.size w w') => l23Ok_s v gs h q w' (hv.below hb))
  have HB := Lib.hid hs
  clear hv hs
  go_enter Tryd.func13, Tryd.ntmps13
  obtain ⟨k0, k1, k2⟩ := bx3 w 31 28 28 #[v] #[.int .i64 h, .int .i64 q] #[.int .i64 0, .int .i64 0]
  have HK0 := Lib.hid k0
  have HK1 := Lib.hid k1
  have HK2 := Lib.hid k2
  clear k0 k1 k2
  go_wp2_with fail
  refine (H1.out _ (by go_grown)).mono ?_
  rintro e w1 ⟨rfl, hb1⟩
  rw [HB.out]
  have j2 := HK2.out.below hb1
  have J0 := Lib.hid (HK0.out.below hb1)
  have J1 := Lib.hid (HK1.out.below hb1)
  have J2 := Lib.hid j2
  have q4 := j2.cell 0 rfl
  have q5 := j2.cell 1 rfl
  have f4 := j2.frozen 0
  have f5 := j2.frozen 1
  have z2 := j2.lt
  have B1 : Below w.heap.size w w1 := Below.trans (by go_grown) (hb1.mono (by simp; omega))
  clear j2 hb1 HK0 HK1 HK2
  go_wp2
  try simp only [Exit.inBlock, Exit.then]
  refine bodyPost_ret (v := .tuple #[.agg #[.int .i64 0, .int .i64 0], .slice none 0 0, .int .i64 1]) ?_ rfl ?_
  · simp [results, Tryd.results13, go_sem, q4, q5]
  exact ⟨_, rfl, ⟨rfl, .inl ⟨rfl, rfl⟩⟩, by go_grown⟩

set_option maxHeartbeats 2000000 in
theorem MoveHands_s2 (v : Value) (gs : List Int) (h q : Int) (s : ByteArray) (w : World) (hv : Sl w v gs) (hsz : s.size ≤ 1073741824) (hs : hnB gs h q = true) (hn : 60 < s.size) :
    Calls Tryd.prog 13 #[.agg #[v], .agg #[.int .i64 h, .int .i64 q], .string s] w fun e w' => ∃ v', e = .returned (.tuple #[.agg #[.int .i64 0, .int .i64 0], v', .int .i64 2]) ∧ w'.ownsRow w.heap.size 2 1 v' ([] : List Int).length (I64 []) ∧ Below w.heap.size w w' := by
  have H1 := Lib.hid (fun w' (hb : Below w.heap.size w w') => l23Ok_s v gs h q w' (hv.below hb))
  have HB := Lib.hid hs
  have e1 : ¬ (s.size : Int) ≤ 60 := by omega
  have e2 : (60 : Int) < (s.size : Int) := by omega
  clear hv hs
  go_enter Tryd.func13, Tryd.ntmps13
  obtain ⟨k0, k1, k2⟩ := bx3 w 31 28 28 #[v] #[.int .i64 h, .int .i64 q] #[.int .i64 0, .int .i64 0]
  have HK0 := Lib.hid k0
  have HK1 := Lib.hid k1
  have HK2 := Lib.hid k2
  clear k0 k1 k2
  go_wp2_with fail
  refine (H1.out _ (by go_grown)).mono ?_
  rintro e w1 ⟨rfl, hb1⟩
  rw [HB.out]
  have j2 := HK2.out.below hb1
  have J0 := Lib.hid (HK0.out.below hb1)
  have J1 := Lib.hid (HK1.out.below hb1)
  have J2 := Lib.hid j2
  have q4 := j2.cell 0 rfl
  have q5 := j2.cell 1 rfl
  have f4 := j2.frozen 0
  have f5 := j2.frozen 1
  have z2 := j2.lt
  have B1 : Below w.heap.size w w1 := Below.trans (by go_grown) (hb1.mono (by simp; omega))
  clear j2 hb1 HK0 HK1 HK2
  go_wp2
  try simp only [Exit.inBlock, Exit.then]
  refine bodyPost_ret (v := .tuple #[.agg #[.int .i64 0, .int .i64 0], .slice none 0 0, .int .i64 2]) ?_ rfl ?_
  · simp [results, Tryd.results13, go_sem, q4, q5]
  exact ⟨_, rfl, ⟨rfl, .inl ⟨rfl, rfl⟩⟩, by go_grown⟩

set_option maxHeartbeats 2000000 in
theorem MoveHands_s7 (v : Value) (gs : List Int) (h q : Int) (s : ByteArray) (w : World) (hv : Sl w v gs) (hsz : s.size ≤ 1073741824) (hs : hnB gs h q = true) (hn : s.size ≤ 60) (hk : knB s = false) :
    Calls Tryd.prog 13 #[.agg #[v], .agg #[.int .i64 h, .int .i64 q], .string s] w fun e w' => ∃ v', e = .returned (.tuple #[.agg #[.int .i64 0, .int .i64 0], v', .int .i64 7]) ∧ w'.ownsRow w.heap.size 2 1 v' ([] : List Int).length (I64 []) ∧ Below w.heap.size w w' := by
  have H1 := Lib.hid (fun w' (hb : Below w.heap.size w w') => l23Ok_s v gs h q w' (hv.below hb))
  have HB := Lib.hid hs
  have e1 : (s.size : Int) ≤ 60 := by omega
  have e2 : ¬ (60 : Int) < (s.size : Int) := by omega
  have HKN := Lib.hid hk
  have HN := Lib.hid (fun w' => l23Known_any s w' (by omega : s.size ≤ 9223372036854775807))
  clear hv hs
  go_enter Tryd.func13, Tryd.ntmps13
  obtain ⟨k0, k1, k2⟩ := bx3 w 31 28 28 #[v] #[.int .i64 h, .int .i64 q] #[.int .i64 0, .int .i64 0]
  have HK0 := Lib.hid k0
  have HK1 := Lib.hid k1
  have HK2 := Lib.hid k2
  clear k0 k1 k2
  go_wp2_with fail
  refine (H1.out _ (by go_grown)).mono ?_
  rintro e w1 ⟨rfl, hb1⟩
  rw [HB.out]
  have j2 := HK2.out.below hb1
  have J0 := Lib.hid (HK0.out.below hb1)
  have J1 := Lib.hid (HK1.out.below hb1)
  have J2 := Lib.hid j2
  have q4 := j2.cell 0 rfl
  have q5 := j2.cell 1 rfl
  have f4 := j2.frozen 0
  have f5 := j2.frozen 1
  have z2 := j2.lt
  have B1 : Below w.heap.size w w1 := Below.trans (by go_grown) (hb1.mono (by simp; omega))
  clear j2 hb1 HK0 HK1 HK2
  go_wp2_with fail
  refine (HN.out _).mono ?_
  rintro e w2 ⟨rfl, rfl⟩
  rw [HKN.out]
  go_wp2
  try simp only [Exit.inBlock, Exit.then]
  refine bodyPost_ret (v := .tuple #[.agg #[.int .i64 0, .int .i64 0], .slice none 0 0, .int .i64 7]) ?_ rfl ?_
  · simp [results, Tryd.results13, go_sem, q4, q5]
  exact ⟨_, rfl, ⟨rfl, .inl ⟨rfl, rfl⟩⟩, by go_grown⟩

set_option maxHeartbeats 8000000 in
theorem MoveHands_i0 (v : Value) (gs : List Int) (h q : Int) (s : ByteArray) (w : World) (hv : Sl w v gs) (hs : hnB gs h q = true) (hn : s.size ≤ 60) (hk : knB s = true) :
    Calls Tryd.prog 16 #[.agg #[v], .agg #[.int .i64 h, .int .i64 q], .string s] w fun e w' => ∃ v', e = .returned (.tuple #[.agg #[.int .i64 (mvS gs s h q s.size).1, .int .i64 (mvS gs s h q s.size).2], v', .int .i64 0]) ∧ w'.ownsRow w.heap.size 2 1 v' (mvL gs s h q s.size).length (I64 (mvL gs s h q s.size)) ∧ Below w.heap.size w w' := by
  have H1 := Lib.hid (fun w' (hb : Below w.heap.size w w') => ValidHands_i v gs h q w' (hv.below hb))
  obtain ⟨hw, hx⟩ := hnB_iff.1 hs
  have hl := whB_iff.1 hw
  have H2 := Lib.hid (fun k w' (hb : Below w.heap.size w w') (hj : k < s.size) => act_mv v gs s h q k w' (hv.below hb) hl.2.1 hx hk hj)
  have HP := Lib.hid (fun k => stpN_in hw (bY s k) (mvS gs s h q k))
  have HB := Lib.hid hs
  have e1 : (s.size : Int) ≤ 60 := by omega
  have e2 : ¬ (60 : Int) < (s.size : Int) := by omega
  have HKN := Lib.hid hk
  have HN := Lib.hid (fun w' => areActions_any s w' (by omega : s.size ≤ 9223372036854775807))
  have kc := fun w => run_bytes_of_string (P := Tryd.prog) w 9 44 5 s (by kernel_rfl) (by kernel_rfl) (by kernel_rfl)
  clear hv hs hw hx hl hk
  go_enter Tryd.func16, Tryd.ntmps16
  obtain ⟨k0, k1, k2⟩ := bx3 w 31 28 28 #[v] #[.int .i64 h, .int .i64 q] #[.int .i64 0, .int .i64 0]
  have HK0 := Lib.hid k0
  have HK1 := Lib.hid k1
  have HK2 := Lib.hid k2
  clear k0 k1 k2
  go_wp2_with fail
  refine (H1.out _ (by go_grown)).mono ?_
  rintro e w1 ⟨rfl, hb1⟩
  rw [HB.out]
  have j2 := HK2.out.below hb1
  have J0 := Lib.hid (HK0.out.below hb1)
  have J1 := Lib.hid (HK1.out.below hb1)
  have J2 := Lib.hid j2
  have q4 := j2.cell 0 rfl
  have q5 := j2.cell 1 rfl
  have f4 := j2.frozen 0
  have f5 := j2.frozen 1
  have z2 := j2.lt
  have B1 : Below w.heap.size w w1 := Below.trans (by go_grown) (hb1.mono (by simp; omega))
  clear j2 hb1 HK0 HK1 HK2
  go_wp2_with fail
  refine (HN.out _).mono ?_
  rintro e w2 ⟨rfl, hb2⟩
  rw [HKN.out]
  have j2 := J2.out.below hb2
  have q4 := j2.cell 0 rfl
  have q5 := j2.cell 1 rfl
  have f4 := j2.frozen 0
  have f5 := j2.frozen 1
  have z2 := j2.lt
  have K0 := Lib.hid (J0.out.below hb2)
  have K1 := Lib.hid (J1.out.below hb2)
  have K2 := Lib.hid j2
  have B2 : Below w.heap.size w w2 := B1.trans (hb2.mono B1.size)
  clear j2 hb2 J0 J1 J2 B1
  go_wp2
  go_loopw [9, 33] (fun x a wr => ∃ k : Nat, k ≤ s.size ∧ a = .int .i64 (k : Int) ∧ wr.ownsRow (w2.heap.size + 1) 2 1 x (mvL gs s h q k).length (I64 (mvL gs s h q k)) ∧ Blk wr w.heap.size 31 #[v] ∧ Blk wr (w.heap.size + 1) 28 #[.int .i64 (mvS gs s h q k).1, .int .i64 (mvS gs s h q k).2] ∧ Blk wr (w.heap.size + 1 + 1) 28 #[.int .i64 0, .int .i64 0] ∧ ByB wr w2.heap.size s ∧ Below w.heap.size w wr) (fun x a _ => s.size - (intOf a).toNat)
  case atStart => exact ⟨0, by omega, by go_num, World.ownsRow_nil _ _ _ _, K0.out.alloc _, K1.out.alloc _, K2.out.alloc _, ByB.new _ _ _ _ _, by go_grown⟩
  case round =>
    obtain ⟨k, hk, rfl, hown, b0, b1, b2, by_, hB⟩ := hrel
    have q0 := b0.cell 0 rfl
    have q2 := b1.cell 0 rfl
    have q3 := b1.cell 1 rfl
    have q4 := b2.cell 0 rfl
    have q5 := b2.cell 1 rfl
    have f4 := b2.frozen 0
    have f5 := b2.frozen 1
    have z2 := b2.lt
    have P0 := Lib.hid b0
    have P1 := Lib.hid b1
    have P2 := Lib.hid b2
    obtain ⟨Ax, cx, rfl⟩ := own_form hown
    have HO := Lib.hid hown
    clear b0 b1 b2 hown
    by_cases hlt : k < s.size
    · have i2 : (k : Int) < (s.size : Int) := by omega
      have cb := by_.cell hlt
      have hb0 : w2.heap.size < wr.heap.size := by_.lt
      go_wp2_with fail
      refine (H2.out k _ hB hlt).mono ?_
      rintro e w3 ⟨rfl, hb2⟩
      have B2 := hB.trans (hb2.mono hB.size)
      have O2 := own_below HO.out hb2
      have b0 := P0.out.below hb2
      have b1 := P1.out.below hb2
      have b2 := P2.out.below hb2
      have PY := Lib.hid (by_.below hb2)
      have zy := PY.out.lt
      clear q0 q2 q3 q4 q5 f4 f5 z2 P0 P1 P2 HO
      have hll : (mvL gs s h q k).length ≤ 134217728 := by have := mvL_length gs s h q k; omega
      have z2 := b2.lt
      have P0 := Lib.hid b0
      have P1 := Lib.hid b1
      have P2 := Lib.hid b2
      have hsz : w2.heap.size + 1 ≤ w3.heap.size + 1 := by omega
      have hsz3 : w.heap.size + 3 ≤ w2.heap.size + 1 := by omega
      by_cases hp : 0 < mvN gs s h q k
      · have HL := Lib.hid (mvL_pos hp)
        have HO := Lib.hid (O2.alloc (.cells #[.int .i64 (mvS gs s h q (k + 1)).1, .int .i64 (mvS gs s h q (k + 1)).2] 28))
        have HE := Lib.hid (own_ne O2 (k := w3.heap.size) (Or.inr (Nat.le_refl _)))
        clear b0 b1 b2 O2 hb2 hB
        go_wp2_with (at_builtin; refine wpList_app1g rfl _ _ rfl (w2.heap.size + 1) _ (mvL gs s h q k) rfl HO.out _ _ rfl (by simp) hll (by simp; omega) ?_; intro v3 w4 hown3 hb3 hg3; have c0 : w4.cell? ⟨w3.heap.size, 0, none⟩ = _ := hg3.cell ((Blk.new w3 28 #[.int .i64 (mvS gs s h q (k + 1)).1, .int .i64 (mvS gs s h q (k + 1)).2]).cell 0 rfl) HE.out; have c1 : w4.cell? ⟨w3.heap.size, 1, none⟩ = _ := hg3.cell ((Blk.new w3 28 #[.int .i64 (mvS gs s h q (k + 1)).1, .int .i64 (mvS gs s h q (k + 1)).2]).cell 1 rfl) HE.out; have p0 := (P0.out.alloc (.cells #[.int .i64 (mvS gs s h q (k + 1)).1, .int .i64 (mvS gs s h q (k + 1)).2] 28)).belowB hb3 (by omega); have p1 := (P1.out.alloc (.cells #[.int .i64 (mvS gs s h q (k + 1)).1, .int .i64 (mvS gs s h q (k + 1)).2] 28)).belowB hb3 (by omega); have p2 := (P2.out.alloc (.cells #[.int .i64 (mvS gs s h q (k + 1)).1, .int .i64 (mvS gs s h q (k + 1)).2] 28)).belowB hb3 (by omega); have GY := Lib.hid ((PY.out.alloc (.cells #[.int .i64 (mvS gs s h q (k + 1)).1, .int .i64 (mvS gs s h q (k + 1)).2] 28)).belowB hb3 (by omega)); have r2 := p1.cell 0 rfl; have r3 := p1.cell 1 rfl; have f2 := p1.frozen 0; have f3 := p1.frozen 1; have z3 := p2.lt; have B3 := Below.trans (B2.alloc B2.size _) (hb3.mono (by omega)); have G0 := Lib.hid p0; have G1 := Lib.hid p1; have G2 := Lib.hid p2; have GO := Lib.hid hown3; clear p0 p1 p2 hown3 hb3 hg3)
        go_roundw
        case rel =>
          refine ⟨k + 1, by omega, by go_num, ?_, ?_, ?_, ?_, ?_, ?_⟩
          · rw [HL.out]
            exact own_setCell (own_setCell GO.out (by first | (simp; done) | (simp; omega)) _) (by first | (simp; done) | (simp; omega)) _
          · refine Blk.far (Blk.far G0.out ?_ _) ?_ _ <;> simp
          · exact Blk.put2 G1.out _ _
          · refine Blk.far (Blk.far G2.out ?_ _) ?_ _ <;> simp
          · refine ByB.far (ByB.far GY.out ?_ _) ?_ _ <;> (simp; omega)
          · go_grown
        case measure => simp [intOf]; omega
      · have HL := Lib.hid (mvL_non hp)
        have q2 := b1.cell 0 rfl
        have q3 := b1.cell 1 rfl
        have f2 := b1.frozen 0
        have f3 := b1.frozen 1
        have z1 := b1.lt
        have HO := Lib.hid O2
        clear b0 b1 b2 O2 hb2 hB
        go_wp2_with fail
        go_roundw
        case rel =>
          refine ⟨k + 1, by omega, by go_num, ?_, ?_, ?_, ?_, ?_, ?_⟩
          · rw [HL.out]
            exact (own_setCell (own_setCell HO.out (by first | (simp; done) | (simp; omega)) _) (by first | (simp; done) | (simp; omega)) _).alloc _
          · refine Blk.alloc (Blk.far (Blk.far P0.out ?_ _) ?_ _) _ <;> simp
          · exact Blk.alloc (Blk.put2 P1.out _ _) _
          · refine Blk.alloc (Blk.far (Blk.far P2.out ?_ _) ?_ _) _ <;> simp
          · refine ByB.alloc (ByB.far (ByB.far PY.out ?_ _) ?_ _) _ <;> (simp; omega)
          · go_grown
        case measure => simp [intOf]; omega
    · obtain rfl : k = s.size := by omega
      go_wp2_with fail
      try simp only [Exit.inBlock, Exit.then]
      refine bodyPost_ret (v := .tuple #[.agg #[.int .i64 (mvS gs s h q s.size).1, .int .i64 (mvS gs s h q s.size).2], .slice Ax (mvL gs s h q s.size).length cx, .int .i64 0]) ?_ rfl ?_
      · simp [results, Tryd.results16, go_sem, q4, q5]
      refine ⟨_, rfl, own_mono (base := w2.heap.size + 1) ?_ (by omega), by go_grown⟩
      exact own_setCell (own_setCell HO.out (by first | (simp; done) | (simp; omega)) _) (by first | (simp; done) | (simp; omega)) _
set_option maxHeartbeats 8000000 in
theorem MoveHands_s0 (v : Value) (gs : List Int) (h q : Int) (s : ByteArray) (w : World) (hv : Sl w v gs) (hs : hnB gs h q = true) (hn : s.size ≤ 60) (hk : knB s = true) :
    Calls Tryd.prog 13 #[.agg #[v], .agg #[.int .i64 h, .int .i64 q], .string s] w fun e w' => ∃ v', e = .returned (.tuple #[.agg #[.int .i64 (mvS gs s h q s.size).1, .int .i64 (mvS gs s h q s.size).2], v', .int .i64 0]) ∧ w'.ownsRow w.heap.size 2 1 v' (mvL gs s h q s.size).length (I64 (mvL gs s h q s.size)) ∧ Below w.heap.size w w' := by
  have H1 := Lib.hid (fun w' (hb : Below w.heap.size w w') => l23Ok_s v gs h q w' (hv.below hb))
  obtain ⟨hw, hx⟩ := hnB_iff.1 hs
  have hl := whB_iff.1 hw
  have H2 := Lib.hid (fun k w' (hb : Below w.heap.size w w') (hj : k < s.size) => l23Step_mv v gs s h q k w' (hv.below hb) hl.2.1 hx hk hj)
  have HP := Lib.hid (fun k => stpN_in hw (bY s k) (mvS gs s h q k))
  have HB := Lib.hid hs
  have e1 : (s.size : Int) ≤ 60 := by omega
  have e2 : ¬ (60 : Int) < (s.size : Int) := by omega
  have HKN := Lib.hid hk
  have HN := Lib.hid (fun w' => l23Known_any s w' (by omega : s.size ≤ 9223372036854775807))
  clear hv hs hw hx hl hk
  go_enter Tryd.func13, Tryd.ntmps13
  obtain ⟨k0, k1, k2⟩ := bx3 w 31 28 28 #[v] #[.int .i64 h, .int .i64 q] #[.int .i64 0, .int .i64 0]
  have HK0 := Lib.hid k0
  have HK1 := Lib.hid k1
  have HK2 := Lib.hid k2
  clear k0 k1 k2
  go_wp2_with fail
  refine (H1.out _ (by go_grown)).mono ?_
  rintro e w1 ⟨rfl, hb1⟩
  rw [HB.out]
  have j2 := HK2.out.below hb1
  have J0 := Lib.hid (HK0.out.below hb1)
  have J1 := Lib.hid (HK1.out.below hb1)
  have J2 := Lib.hid j2
  have q4 := j2.cell 0 rfl
  have q5 := j2.cell 1 rfl
  have f4 := j2.frozen 0
  have f5 := j2.frozen 1
  have z2 := j2.lt
  have B1 : Below w.heap.size w w1 := Below.trans (by go_grown) (hb1.mono (by simp; omega))
  clear j2 hb1 HK0 HK1 HK2
  go_wp2_with fail
  refine (HN.out _).mono ?_
  rintro e w2 ⟨rfl, rfl⟩
  rw [HKN.out]
  go_wp2
  go_loopw [9, 10] (fun x a wr => ∃ k : Nat, k ≤ s.size ∧ a = .int .i64 (k : Int) ∧ wr.ownsRow (w.heap.size + 3) 2 1 x (mvL gs s h q k).length (I64 (mvL gs s h q k)) ∧ Blk wr w.heap.size 31 #[v] ∧ Blk wr (w.heap.size + 1) 28 #[.int .i64 (mvS gs s h q k).1, .int .i64 (mvS gs s h q k).2] ∧ Blk wr (w.heap.size + 1 + 1) 28 #[.int .i64 0, .int .i64 0] ∧ Below w.heap.size w wr) (fun x a _ => s.size - (intOf a).toNat)
  case atStart => exact ⟨0, by omega, by go_num, World.ownsRow_lit w1 #[] 0 (by omega) (Nat.zero_le _) rfl, J0.out.alloc _, J1.out.alloc _, J2.out.alloc _, by go_grown⟩
  case round =>
    obtain ⟨k, hk, rfl, hown, b0, b1, b2, hB⟩ := hrel
    have q0 := b0.cell 0 rfl
    have q2 := b1.cell 0 rfl
    have q3 := b1.cell 1 rfl
    have q4 := b2.cell 0 rfl
    have q5 := b2.cell 1 rfl
    have f4 := b2.frozen 0
    have f5 := b2.frozen 1
    have z2 := b2.lt
    have P0 := Lib.hid b0
    have P1 := Lib.hid b1
    have P2 := Lib.hid b2
    obtain ⟨Ax, cx, rfl⟩ := own_form hown
    have HO := Lib.hid hown
    clear b0 b1 b2 hown
    by_cases hlt : k < s.size
    · have i2 : (k : Int) < (s.size : Int) := by omega
      have HSr := Lib.hid (fun (w' : World) (hw : Below wr.heap.size wr w') => (⟨(P0.out.below hw).cell 0 rfl, (P1.out.below hw).cell 0 rfl, (P1.out.below hw).cell 1 rfl⟩ : w'.cell? ⟨w.heap.size, 0, none⟩ = some (v) ∧ w'.cell? ⟨w.heap.size + 1, 0, none⟩ = some (.int .i64 (mvS gs s h q k).1) ∧ w'.cell? ⟨w.heap.size + 1, 1, none⟩ = some (.int .i64 (mvS gs s h q k).2)))
      have HBw := Lib.hid hB
      have z3 : w.heap.size < wr.heap.size := by omega
      have z4 : w.heap.size + 1 < wr.heap.size := by omega
      go_wp2_with fail
      go_cut [11, 12] (fun a11 a12 wq => ∃ g : Nat, a11 = .pointer (some ⟨g, 0, none⟩) ∧ a12 = .int .i64 (mvN gs s h q k) ∧ wr.heap.size ≤ g ∧ g < wq.heap.size ∧ wq.cell? ⟨g, 0, none⟩ = some (.int .i64 (mvS gs s h q (k + 1)).1) ∧ wq.cell? ⟨g, 1, none⟩ = some (.int .i64 (mvS gs s h q (k + 1)).2) ∧ Below wr.heap.size wr wq)
      case first =>
        go_region_held3 (fun w' => w'.cell? ⟨w.heap.size, 0, none⟩ = some (v) ∧ w'.cell? ⟨w.heap.size + 1, 0, none⟩ = some (.int .i64 (mvS gs s h q k).1) ∧ w'.cell? ⟨w.heap.size + 1, 1, none⟩ = some (.int .i64 (mvS gs s h q k).2)) (first | assumption | (refine HSr.out _ ?_; go_grown; done) | ((try dsimp only); (repeat' apply And.intro) <;> (first | assumption | (simp [go_sem, *]; done))) | go_keep)
          (first
            | (go_at_call 54; refine (H2.out k _ (grown_again HBw.out (by first | exact Below.refl _ _ | go_grown)) hlt).mono ?_; rintro e w3 ⟨rfl, hb2⟩; have B3 : Below wr.heap.size wr w3 := Below.trans (by first | exact Below.refl _ _ | go_grown) (hb2.mono (by first | exact Nat.le_refl _ | (simp [go_sem]; done) | (simp [go_sem]; omega))); have S3 := HSr.out w3 B3; have y3 := B3.size; obtain ⟨hc3, hf3⟩ := bcell hb2; (try (have a3 : wr.heap.size < w3.heap.size := Nat.lt_of_lt_of_le (by first | assumption | (simp [go_sem]; done) | (simp only [go_sem]; omega) | (simp [go_sem]; omega)) hb2.size)); clear hb2))
        all_goals (go_wp2_with fail; go_meet)
        all_goals refine ⟨_, rfl, rfl, ?_, ?_, ?_, ?_, ?_⟩
        all_goals first
          | (with_reducible exact Nat.le_refl _) | (with_reducible assumption)
          | (go_grown; done)
          | (simp [go_sem, *]; done)
          | (simp; omega)
      case rest =>
        obtain ⟨w3, rfl⟩ : ∃ x : World, x = wc := ⟨_, rfl⟩
        obtain ⟨g, rfl, rfl, hg, hgl, c0, c1, hb2⟩ := hcut
        have B2 := hB.trans (hb2.mono hB.size)
        have O2 := own_below HO.out hb2
        have HE := Lib.hid (own_ne HO.out (k := g) (Or.inr hg))
        have b0 := P0.out.below hb2
        have b1 := P1.out.below hb2
        have b2 := P2.out.below hb2
        clear q0 q2 q3 q4 q5 f4 f5 z2 P0 P1 P2 HO HSr HBw hB
        have hll : (mvL gs s h q k).length ≤ 134217728 := by have := mvL_length gs s h q k; omega
        have z2 := b2.lt
        have P0 := Lib.hid b0
        have P1 := Lib.hid b1
        have P2 := Lib.hid b2
        have hsz : w.heap.size + 3 ≤ w3.heap.size := by omega
        have ng1 : ¬ g = w.heap.size + 1 := by omega
        have ng2 : ¬ w.heap.size + 1 = g := by omega
        by_cases hp : 0 < mvN gs s h q k
        · have HL := Lib.hid (mvL_pos hp)
          have HO := Lib.hid O2
          have HC0 := Lib.hid c0
          have HC1 := Lib.hid c1
          clear b0 b1 b2 O2 hb2 c0 c1
          go_wp2_with (at_builtin; refine wpList_app1g rfl _ _ rfl (w.heap.size + 3) _ (mvL gs s h q k) rfl HO.out _ _ rfl (by simp) hll (by first | omega | (simp; omega)) ?_; intro v3 w4 hown3 hb3 hg3; have c0 : w4.cell? ⟨g, 0, none⟩ = _ := hg3.cell HC0.out HE.out; have c1 : w4.cell? ⟨g, 1, none⟩ = _ := hg3.cell HC1.out HE.out; have p0 := P0.out.belowB hb3 (by omega); have p1 := P1.out.belowB hb3 (by omega); have p2 := P2.out.belowB hb3 (by omega); have r2 := p1.cell 0 rfl; have r3 := p1.cell 1 rfl; have f2 := p1.frozen 0; have f3 := p1.frozen 1; have z3 := p2.lt; have B3 := Below.trans B2 (hb3.mono (by omega)); have G0 := Lib.hid p0; have G1 := Lib.hid p1; have G2 := Lib.hid p2; have GO := Lib.hid hown3; clear p0 p1 p2 hown3 hb3 hg3)
          go_roundw
          case rel =>
            refine ⟨k + 1, by omega, by go_num, ?_, ?_, ?_, ?_, ?_⟩
            · rw [HL.out]
              exact own_setCell (own_setCell GO.out (by first | (simp; done) | (simp; omega)) _) (by first | (simp; done) | (simp; omega)) _
            · refine Blk.far (Blk.far G0.out ?_ _) ?_ _ <;> simp
            · exact Blk.put2 G1.out _ _
            · refine Blk.far (Blk.far G2.out ?_ _) ?_ _ <;> simp
            · go_grown
          case measure => simp [intOf]; omega
        · have HL := Lib.hid (mvL_non hp)
          have q2 := b1.cell 0 rfl
          have q3 := b1.cell 1 rfl
          have f2 := b1.frozen 0
          have f3 := b1.frozen 1
          have z1 := b1.lt
          have HO := Lib.hid O2
          clear b0 b1 b2 O2 hb2
          go_wp2_with fail
          go_roundw
          case rel =>
            refine ⟨k + 1, by omega, by go_num, ?_, ?_, ?_, ?_, ?_⟩
            · rw [HL.out]
              exact own_setCell (own_setCell HO.out (by first | (simp; done) | (simp; omega)) _) (by first | (simp; done) | (simp; omega)) _
            · refine Blk.far (Blk.far P0.out ?_ _) ?_ _ <;> simp
            · exact Blk.put2 P1.out _ _
            · refine Blk.far (Blk.far P2.out ?_ _) ?_ _ <;> simp
            · go_grown
          case measure => simp [intOf]; omega
    · obtain rfl : k = s.size := by omega
      go_wp2_with fail
      try simp only [Exit.inBlock, Exit.then]
      refine bodyPost_ret (v := .tuple #[.agg #[.int .i64 (mvS gs s h q s.size).1, .int .i64 (mvS gs s h q s.size).2], .slice Ax (mvL gs s h q s.size).length cx, .int .i64 0]) ?_ rfl ?_
      · simp [results, Tryd.results13, go_sem, q4, q5]
      refine ⟨_, rfl, own_mono (base := w.heap.size + 3) ?_ (by omega), by go_grown⟩
      exact own_setCell (own_setCell HO.out (by first | (simp; done) | (simp; omega)) _) (by first | (simp; done) | (simp; omega)) _
/-- Program and reference return the same. -/
theorem MoveHands_both (gs : List Int) (h q : Int) (s : ByteArray) (hsz : s.size ≤ 1073741824) : ∃ (ra rb : Int) (rl : List Int) (rc : Int), rl.length ≤ 60 ∧
    (∀ v w, Sl w v gs → Calls Tryd.prog 16 #[.agg #[v], .agg #[.int .i64 h, .int .i64 q], .string s] w fun e w' => ∃ v', e = .returned (.tuple #[.agg #[.int .i64 ra, .int .i64 rb], v', .int .i64 rc]) ∧ w'.ownsRow w.heap.size 2 1 v' rl.length (I64 rl) ∧ Below w.heap.size w w') ∧
    (∀ v w, Sl w v gs → Calls Tryd.prog 13 #[.agg #[v], .agg #[.int .i64 h, .int .i64 q], .string s] w fun e w' => ∃ v', e = .returned (.tuple #[.agg #[.int .i64 ra, .int .i64 rb], v', .int .i64 rc]) ∧ w'.ownsRow w.heap.size 2 1 v' rl.length (I64 rl) ∧ Below w.heap.size w w') := by
  cases hs : hnB gs h q with
  | false => exact ⟨0, 0, [], 1, Nat.zero_le _, fun v w hv => MoveHands_i1 v gs h q s w hv hsz hs, fun v w hv => MoveHands_s1 v gs h q s w hv hsz hs⟩
  | true =>
    by_cases hn : s.size ≤ 60
    · cases hk : knB s with
      | false => exact ⟨0, 0, [], 7, Nat.zero_le _, fun v w hv => MoveHands_i7 v gs h q s w hv hsz hs hn hk, fun v w hv => MoveHands_s7 v gs h q s w hv hsz hs hn hk⟩
      | true => exact ⟨_, _, mvL gs s h q s.size, _, Nat.le_trans (mvL_length gs s h q s.size) hn, fun v w hv => MoveHands_i0 v gs h q s w hv hs hn hk, fun v w hv => MoveHands_s0 v gs h q s w hv hs hn hk⟩
    · exact ⟨0, 0, [], 2, Nat.zero_le _, fun v w hv => MoveHands_i2 v gs h q s w hv hsz hs (by omega), fun v w hv => MoveHands_s2 v gs h q s w hv hsz hs (by omega)⟩

end Go.Proofs.YtfddibdncniekaaDoor
