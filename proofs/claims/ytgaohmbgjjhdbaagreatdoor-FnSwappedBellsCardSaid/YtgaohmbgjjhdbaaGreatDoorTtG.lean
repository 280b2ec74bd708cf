/- Chimes: the library's text functions as this program calls them, in plain terms. -/
import Derived.Test.YtgaohmbgjjhdbaaGreatDoorTtR
import Derived.Test.YtgaohmbgjjhdbaaGreatDoorTtC
import Derived.Test.YtgaohmbgjjhdbaaGreatDoorShRd
import Derived.Shelf.Strings.Cut
import Derived.Shelf.Strings.Split
import Derived.Shelf.Strings.Prefix
import Derived.Shelf.Strconv.ErrVarParseInt
import Derived.Shelf.Strconv.Itoa4
import Derived.WalkSmall
namespace Go.Proofs.YtgaohmbgjjhdbaaGreatDoor
open Go.RowKit
attribute [local go_sem ↓] Go.wp_at_zero Go.wp_at_succ

/-- The package variables that the library's text functions read. -/
structure GX (w : World) : Prop where
  mx : ∃ m : Int, w.cell? ⟨0, 0, none⟩ = some (.int .i64 m)
  es : ∃ tp p, w.cell? ⟨2, 0, none⟩ = some (.iface tp p)
  er : ∃ tp p, w.cell? ⟨3, 0, none⟩ = some (.iface tp p)
  tb : Lib.TabIs Tryz.prog w "internal/strconv.uint64pow10" .u64 Lib.pow10Tab
theorem tab_below {w w' : World} {zs : List Int} (h : Lib.TabIs Tryz.prog w "internal/strconv.uint64pow10" .u64 zs) (hb : Below w.heap.size w w') : Lib.TabIs Tryz.prog w' "internal/strconv.uint64pow10" .u64 zs := by
  unfold Lib.TabIs World.var? at h ⊢
  cases hg : Tryz.prog.globalNamed "internal/strconv.uint64pow10" with
  | none => simp [hg] at h
  | some g =>
    simp only [hg, Option.bind_some] at h ⊢
    have hlt : g < w.heap.size := by
      rcases Nat.lt_or_ge g w.heap.size with h' | h'
      · exact h'
      · rw [Array.getElem?_eq_none h'] at h; cases h
    rw [hb.block g hlt]
    exact h
theorem GX.below {w w' : World} (h : GX w) (hb : Below w.heap.size w w') : GX w' := by
  have key : ∀ {k : Nat} {v : Value}, w.cell? ⟨k, 0, none⟩ = some v → w'.cell? ⟨k, 0, none⟩ = some v := fun {k v} e => (hb.cell (p := ⟨k, 0, none⟩) (Lib.lt_of_cell e)).trans e
  obtain ⟨m, hm⟩ := h.mx
  obtain ⟨a, b, hs⟩ := h.es
  obtain ⟨c, d, hr⟩ := h.er
  exact { mx := ⟨m, key hm⟩, es := ⟨a, b, key hs⟩, er := ⟨c, d, key hr⟩, tb := tab_below h.tb hb }

theorem index_at (c : UInt8) : ∀ (a r : List UInt8), (∀ x ∈ a, x ≠ c) → Lib.index (a ++ c :: r) [c] = a.length
  | [], r, _ => by rw [List.nil_append, Lib.index]; simp [List.isPrefixOf]
  | b :: a, r, h => by
    have h1 : b ≠ c := h b (by simp)
    have ih := index_at c a r fun x hx => h x (by simp [hx])
    rw [List.cons_append, Lib.index, ih]
    have hp : ([c] : List UInt8).isPrefixOf (b :: (a ++ c :: r)) = false := by simp [List.isPrefixOf, Ne.symm h1]
    rw [hp]
    have : ¬ ((a.length : Int) == -1) = true := by intro e; have := beq_iff_eq.1 e; omega
    simp [this]
theorem cut_at (c : UInt8) (a r : List UInt8) (h : ∀ x ∈ a, x ≠ c) : Lib.cut (a ++ c :: r) [c] = (a, r, true) := by
  rw [Lib.cut, index_at c a r h, if_pos (by omega)]
  simp
theorem splitK_spl (c : UInt8) : ∀ s : List UInt8, Lib.splitK [c] 0 (s.count c) s = spl c s
  | [] => rfl
  | b :: l => by
    have ih := splitK_spl c l
    by_cases h : b = c
    · subst h
      have hix : Lib.index (b :: l) [b] = 0 := by rw [Lib.index]; simp [List.isPrefixOf]
      rw [List.count_cons_self, Lib.splitK, hix, if_neg (by decide), spl, if_pos rfl, ← ih]
      simp
    · rw [List.count_cons_of_ne (by simpa using h), spl, if_neg h, ← ih]
      cases hk : l.count c with
      | zero => rfl
      | succ k =>
        have hix : Lib.index (b :: l) [c] = if Lib.index l [c] == -1 then -1 else Lib.index l [c] + 1 := by
          have hp : ([c] : List UInt8).isPrefixOf (b :: l) = false := by simp [List.isPrefixOf, Ne.symm h]
          rw [Lib.index, hp]; simp
        have hm : ¬ Lib.index l [c] = -1 := fun e => by
          have := Lib.count_miss e
          rw [Lib.count_one] at this
          omega
        have hge := Lib.index_ge l [c]
        obtain ⟨j, hj⟩ : ∃ j : Nat, Lib.index l [c] = j := ⟨(Lib.index l [c]).toNat, by omega⟩
        have e1 : ¬ ((j : Int) == -1) = true := by intro e; have := beq_iff_eq.1 e; omega
        have e2 : ¬ ((j : Int) + 1 == -1) = true := by intro e; have := beq_iff_eq.1 e; omega
        rw [Lib.splitK, hix, hj, if_neg e1, if_neg e2, Lib.splitK, hj, if_neg e1]
        have e3 : ((j : Int) + 1).toNat = j + 1 := by omega
        rw [e3]
        simp

theorem below_sgrow (w : World) (k : Nat) (os : Array Obj) : Below w.heap.size w (Sort.grow (w.drewN k) os) := by
  refine ⟨rfl, rfl, rfl, ?_, fun i hi => ?_⟩
  · show w.heap.size ≤ (w.heap ++ os).size
    simp
  · show (w.heap ++ os)[i]? = w.heap[i]?
    rw [Array.getElem?_append_left hi]

theorem Cut_any (s : List UInt8) (w : World) (hs : s.length ≤ 1048576) (hg : GX w) :
    Calls Tryz.prog 31 #[.string (bT s), .string ⟨#[58]⟩] w fun e w' => e = .returned (.tuple #[.string (bT (Lib.cut s [58]).1), .string (bT (Lib.cut s [58]).2.1), .bool (Lib.cut s [58]).2.2]) ∧ Below w.heap.size w w' := by
  obtain ⟨m, hm⟩ := hg.mx
  refine (Any.strings_Cut (ρ := YtgaohmbgjjhdbaaGreatDoor.layCut_ren) (P := Tryz.prog) YtgaohmbgjjhdbaaGreatDoor.layCut (bT s) ⟨#[58]⟩ m w (by rw [bT_size]; omega) hm).mono ?_
  rintro e w' ⟨rfl, n, rfl⟩
  exact ⟨rfl, below_drewN (Below.refl _ _) n⟩
theorem Split_any (s : List UInt8) (w : World) (hs : s.length ≤ 1048576) (hg : GX w) :
    Calls Tryz.prog 32 #[.string (bT s), .string ⟨#[46]⟩] w fun e w' => e = .returned (.slice (some ⟨w.heap.size, 0, none⟩) (spl 46 s).length (spl 46 s).length) ∧ w' = w.alloc (.cells (X64 (spl 46 s)).toArray 9) := by
  obtain ⟨m, hm⟩ := hg.mx
  have hc := Any.strings_Split (ρ := YtgaohmbgjjhdbaaGreatDoor.laySpl_ren) (P := Tryz.prog) { YtgaohmbgjjhdbaaGreatDoor.laySpl with } YtgaohmbgjjhdbaaGreatDoor.laySpl.i9 (bT s) ⟨#[46]⟩ m w (by rw [bT_size]; omega) hm (by decide)
  have e1 : Lib.countB (bT s) ⟨#[46]⟩ = s.count 46 := Lib.count_one 46 s
  have e2 : (Lib.splitB ⟨#[46]⟩ 0 (Lib.countB (bT s) ⟨#[46]⟩) (bT s)).map (·.data.toList) = spl 46 s := by
    rw [Lib.splitB_data, e1]
    exact splitK_spl 46 s
  have e3 : Lib.countB (bT s) ⟨#[46]⟩ + 1 = (spl 46 s).length := by
    rw [← e2, List.length_map, Lib.splitB_all ⟨#[46]⟩ (by decide) 0 _ (bT s) rfl]
  have e4 : (Lib.splitB ⟨#[46]⟩ 0 (Lib.countB (bT s) ⟨#[46]⟩) (bT s)).map Value.string = X64 (spl 46 s) := by
    rw [← e2, X64, List.map_map]
    exact List.map_congr_left fun x _ => rfl
  rw [e3, e4] at hc
  exact hc
theorem TrimPrefix_any (s : List UInt8) (w : World) :
    Calls Tryz.prog 57 #[.string (bT s), .string ⟨#[45]⟩] w fun e w' => e = .returned (.string (bT (Lib.trimPrefix s [45]))) ∧ w' = w :=
  Any.strings_TrimPrefix (ρ := YtgaohmbgjjhdbaaGreatDoor.layTrimP_ren) (P := Tryz.prog) YtgaohmbgjjhdbaaGreatDoor.layTrimP (bT s) ⟨#[45]⟩ w
theorem ParseInt_any (s : List UInt8) (w : World) (hs : s.length ≤ 1048576) (hg : GX w) :
    Calls Tryz.prog 58 #[.string (bT s), .int .i64 10, .int .i64 64] w fun e w' => ((∃ v : Int, Lib.parseIntB 64 s = .ok v ∧ e = .returned (.tuple #[.int .i64 v, .nilIface])) ∨ ((∀ v, Lib.parseIntB 64 s ≠ .ok v) ∧ ∃ (v : Int) (tp : TypeId) (p : Value), e = .returned (.tuple #[.int .i64 v, .iface tp p]))) ∧ Below w.heap.size w w' := by
  obtain ⟨t1, p1, h1⟩ := hg.es
  obtain ⟨t2, p2, h2⟩ := hg.er
  have hz : (bT s).size ≤ 1048576 := by rw [bT_size]; exact hs
  cases h : Lib.parseIntB 64 s with
  | ok v =>
    refine (Any.strconv_ParseInt_10_at64_ok (ρ := YtgaohmbgjjhdbaaGreatDoor.layPint_ren) (P := Tryz.prog) YtgaohmbgjjhdbaaGreatDoor.layPint (bT s) (by omega) v h w).mono ?_
    rintro e w' ⟨rfl, hw⟩
    refine ⟨Or.inl ⟨v, rfl, rfl⟩, ?_⟩
    rcases hw with rfl | ⟨t, rfl⟩
    · exact Below.refl _ _
    · exact Lib.bytesWorld_below _ _ _
  | «syntax» =>
    refine (Any.strconv_ParseInt_10_at64_syntax (ρ := YtgaohmbgjjhdbaaGreatDoor.layPint_ren) (P := Tryz.prog) YtgaohmbgjjhdbaaGreatDoor.layPint (bT s) (by omega) h _ w h1 (Or.inr ⟨_, _, rfl⟩)).mono ?_
    rintro e w' ⟨n, rfl, _, _, hb⟩
    exact ⟨Or.inr ⟨(by intro v e; cases e), _, _, _, rfl⟩, hb⟩
  | range =>
    refine (Any.strconv_ParseInt_10_at64_range (ρ := YtgaohmbgjjhdbaaGreatDoor.layPint_ren) (P := Tryz.prog) YtgaohmbgjjhdbaaGreatDoor.layPint (bT s) (by omega) h _ w h2 (Or.inr ⟨_, _, rfl⟩)).mono ?_
    rintro e w' ⟨n, rfl, _, _, hb⟩
    exact ⟨Or.inr ⟨(by intro v e; cases e), _, _, _, rfl⟩, hb⟩
set_option maxHeartbeats 2000000 in
/-- A number of any size, said by the program. -/
theorem DecimalZ_any (n : Int) (h0 : -9223372036854775808 ≤ n) (h1 : n ≤ 9223372036854775807) (w : World) (hg : GX w) :
    Calls Tryz.prog 29 #[.int .i64 n] w fun e w' => e = .returned (.string (bT (Lib.itoa n))) ∧ Below w.heap.size w w' := by
  have HC := Lib.hid (show Calls Tryz.prog 51 #[.int .i64 n, .int .i64 10] w (fun e w' => e = .returned (.string (bT (Lib.itoa n))) ∧ Below w.heap.size w w') from
    (Any.strconv_FormatInt_10 (ρ := YtgaohmbgjjhdbaaGreatDoor.layFmtM_ren) (P := Tryz.prog) YtgaohmbgjjhdbaaGreatDoor.layFmtM n h0 h1 w hg.tb).mono fun e w' ⟨he, k, os, hw⟩ => ⟨he, hw ▸ below_sgrow w k os⟩)
  go_enter Tryz.func29, Tryz.ntmps29
  go_wp2_with fail
  refine HC.out.mono ?_
  rintro e w' ⟨rfl, hb⟩
  go_wp2
  go_ret
  exact ⟨rfl, hb⟩
end Go.Proofs.YtgaohmbgjjhdbaaGreatDoor
