/- Hands: the library's sort at states (slices.SortFunc with compareHands). (Its first half written by convert.py out of ChO.) -/
import Derived.Test.YtfddibdncniekaaDoorHsT
import Derived.Test.YtfddibdncniekaaDoorShHs
import Derived.Test.YtfddibdncniekaaDoorHnV
import Derived.Shelf.SlSortCmp.NoneTotal
import Derived.Sort.OwnSortedInts
namespace Go.Proofs.YtfddibdncniekaaDoor
open Go.RowKit Go.Lib Go.Sort
attribute [local go_sem ↓] Go.wp_at_zero Go.wp_at_succ

theorem grow_of_below {w w' : World} (hb : Below w.heap.size w w') (hd : w.drawn ≤ w'.drawn) : ∃ q os', w' = Go.Sort.grow (w.drewN q) os' := by
  refine ⟨w'.drawn - w.drawn, w'.heap.extract w.heap.size w'.heap.size, ?_⟩
  obtain ⟨h1, h2, h3, h4, h5⟩ := hb
  obtain ⟨hp, tp, dr, os, out⟩ := w
  obtain ⟨hp', tp', dr', os', out'⟩ := w'
  simp only at h1 h2 h3 h4 h5 hd
  subst h1 h2 h3
  simp only [Go.Sort.grow, World.drewN]
  have e1 : dr + (dr' - dr) = dr' := by omega
  have e2 : hp ++ hp'.extract hp.size hp'.size = hp' := by
    apply Array.ext_getElem?
    intro k
    rw [Array.getElem?_append]
    split
    · rename_i hk; exact (h5 k hk).symm
    · rename_i hk
      rw [Array.getElem?_extract]
      by_cases hk2 : k < hp'.size
      · rw [if_pos (by omega)]; congr 1; omega
      · rw [if_neg (by omega)]; exact (Array.getElem?_eq_none (by omega)).symm
  rw [e1, e2]

theorem dr_alloc (w : World) (o : Obj) : (w.alloc o).drawn = w.drawn := rfl
theorem dr_drew (w : World) : w.drew.drawn = w.drawn + 1 := rfl
theorem dr_drewN (w : World) (n : Nat) : (w.drewN n).drawn = w.drawn + n := rfl
def encP (x : Int × Int) : List Value := [.int .i64 x.1, .int .i64 x.2]
theorem flat_P64 (ps : List (Int × Int)) : (flatK encP 2 ps.toArray).toList = P64 ps := by
  apply List.ext_getElem?
  intro t
  by_cases h : t < ps.length * 2
  · have h2 : t / 2 < ps.length := by omega
    have e1 : (flatK encP 2 ps.toArray).toList[t]? = some (flatK encP 2 ps.toArray)[t]! := by
      have hs : t < (flatK encP 2 ps.toArray).size := by simpa using h
      rw [Array.getElem?_toList, Array.getElem?_eq_getElem hs, getElem!_pos _ t hs]
    rw [e1, get_flatK encP 2 ps.toArray t (by simpa using h)]
    have e2 : ps.toArray[t / 2]! = pi ps (t / 2) := by rw [pi_eq h2]; simp [h2]
    rw [e2]
    rcases Nat.mod_two_eq_zero_or_one t with hr | hr
    · have := (P64_get h2).1
      rw [show t / 2 * 2 = t by omega] at this
      rw [this, hr]; rfl
    · have := (P64_get h2).2
      rw [show t / 2 * 2 + 1 = t by omega] at this
      rw [this, hr]; rfl
  · rw [List.getElem?_eq_none (by simp; omega), List.getElem?_eq_none (by rw [P64_length]; omega)]
theorem holds_of_ownP {w : World} {base g n c : Nat} {e : TypeId} {ps : List (Int × Int)} (h : w.ownsRow base e 2 (.slice (some ⟨g, 0, none⟩) n c) n (P64 ps)) (hl : ps.length = n) : HoldsK encP 2 w g 0 ps.toArray ∧ g < w.heap.size ∧ base ≤ g := by
  have h0 := h.lt g rfl
  refine ⟨fun j hj => ?_, h0.2, h0.1⟩
  have hj' : j < ps.length * 2 := by simpa using hj
  constructor
  · rw [Nat.zero_add, h.cellAt j (by omega), ← flat_P64, Array.getElem?_toList, Array.getElem?_eq_getElem hj, getElem!_pos _ j hj]; rfl
  · rcases h.2 with ⟨e0, _⟩ | ⟨g', cap', cur, e0, _, hg, _⟩
    · cases e0
    · injection e0 with e1 _ _
      injection e1 with e1
      injection e1 with e1
      subst e1
      simp [World.frozen?, hg]
theorem own_sortP {w : World} {base g n c m : Nat} {e : TypeId} {ps qs : List (Int × Int)} {os : Array Obj} (h : w.ownsRow base e 2 (.slice (some ⟨g, 0, none⟩) n c) n (P64 ps)) (hq : qs.length = n) :
    (sortWorldK encP 2 w g 0 m qs.toArray os).ownsRow base e 2 (.slice (some ⟨g, 0, none⟩) n c) n (P64 qs) := by
  rcases h.2 with ⟨e0, _⟩ | ⟨g', cap', cur, e0, hb, hg, hn, hm, hs, ht⟩
  · cases e0
  · injection e0 with e1 _ e3
    injection e1 with e1
    injection e1 with e1
    subst e1; subst e3
    have hlt : g < w.heap.size := (Array.getElem?_eq_some_iff.1 hg).1
    refine ⟨by rw [P64_length, hq], .inr ⟨g, c, putCells id 0 (flatK encP 2 qs.toArray) cur, rfl, hb, ?_, hn, hm, by simpa [putCells] using hs, ?_⟩⟩
    · unfold sortWorldK
      rw [heap_grow_old _ _ (by simpa [putRowK, putRow, mapBlock, Sort.ahead] using hlt)]
      simp [putRowK, putRow, mapBlock, Sort.ahead, Array.getElem?_modify, hg, onCells]
    · rw [← flat_P64]
      have hF : (flatK encP 2 qs.toArray).size = n * 2 := by simp [hq]
      apply List.ext_getElem?
      intro j
      rw [List.getElem?_take, Array.getElem?_toList, Array.getElem?_toList]
      by_cases hj : j < n * 2
      · have hjc : j < cur.size := by rw [hs]; exact Nat.lt_of_lt_of_le hj (Nat.mul_le_mul_right 2 hn)
        rw [if_pos hj, putCells, Array.getElem?_mapIdx, Array.getElem?_eq_getElem hjc, Option.map_some, if_pos (by omega), Nat.sub_zero]
        rw [Array.getElem?_eq_getElem (by omega), getElem!_pos _ j (by omega)]; rfl
      · rw [if_neg hj, Array.getElem?_eq_none (by omega)]
theorem below_sortP {w : World} {base g m : Nat} {qs : List (Int × Int)} {os : Array Obj} (hb : base ≤ g) (hg : g < w.heap.size) : Below base w (sortWorldK encP 2 w g 0 m qs.toArray os) :=
  ⟨rfl, rfl, rfl, by simp [sortWorldK, Go.Sort.grow, putRowK, putRow, mapBlock, Sort.ahead], fun k hk => by
    unfold sortWorldK
    rw [heap_grow_old _ _ (by simp [putRowK, putRow, mapBlock, Sort.ahead]; omega)]
    simp [putRowK, putRow, mapBlock, Sort.ahead, Array.getElem?_modify, show g ≠ k by omega]⟩


/-- States within small bounds: what compareHands orders. -/
abbrev SmS := Fin 64 × Fin 64
def tP (x : SmS) : Int × Int := ((x.1.val : Int), (x.2.val : Int))
def encF (x : SmS) : List Value := [.int .i64 (x.1.val : Int), .int .i64 (x.2.val : Int)]
theorem encF_eq (x : SmS) : encF x = encP (tP x) := rfl
theorem tP_inj {x y : SmS} (h : tP x = tP y) : x = y := by
  obtain ⟨a, b⟩ := x
  obtain ⟨c, d⟩ := y
  simp only [tP, Prod.mk.injEq] at h
  exact Prod.ext (Fin.ext (by show a.val = c.val; omega)) (Fin.ext (by show b.val = d.val; omega))
def cmpH (x y : SmS) : Int := if (x.1.val : Int) = (y.1.val : Int) then (x.2.val : Int) - (y.2.val : Int) else (x.1.val : Int) - (y.1.val : Int)
set_option maxHeartbeats 4000000 in
theorem compareHands_dr (x y : SmS) (w : World) :
    Calls Tryd.prog 81 #[.agg (encF x).toArray, .agg (encF y).toArray] w fun e w' => e = .returned (.int .i64 (cmpH x y)) ∧ Below w.heap.size w w' ∧ w.drawn ≤ w'.drawn := by
  obtain ⟨⟨a, ha⟩, ⟨b, hb⟩⟩ := x
  obtain ⟨⟨c, hc⟩, ⟨d, hd⟩⟩ := y
  show Calls Tryd.prog 81 #[.agg #[.int .i64 (a : Int), .int .i64 (b : Int)], .agg #[.int .i64 (c : Int), .int .i64 (d : Int)]] w _
  by_cases h : a = c
  · subst h
    have HR : Hid (cmpH (⟨a, ha⟩, ⟨b, hb⟩) (⟨a, hc⟩, ⟨d, hd⟩) = (b : Int) - (d : Int)) := by show _ = _; simp [cmpH]
    go_enter Tryd.func81, Tryd.ntmps81
    go_wp2
    go_ret
    exact ⟨ret_i HR.out.symm, by go_grown, by simp⟩
  · have HR : Hid (cmpH (⟨a, ha⟩, ⟨b, hb⟩) (⟨c, hc⟩, ⟨d, hd⟩) = (a : Int) - (c : Int)) := by
      show _ = _
      have : ¬ (a : Int) = (c : Int) := by omega
      simp [cmpH, this]
    have n1 : ((a : Int) != (c : Int)) = true := by simp; omega
    have n2 : ¬ (a : Int) = (c : Int) := by omega
    go_enter Tryd.func81, Tryd.ntmps81
    go_wp2
    go_ret
    exact ⟨ret_i HR.out.symm, by go_grown, by simp⟩
theorem lt_befH (x y : SmS) : ltOf cmpH x y = befP (tP x) (tP y) := by
  unfold ltOf cmpH befP tP
  rw [Bool.eq_iff_iff]
  simp only [decide_eq_true_eq, Bool.or_eq_true, Bool.and_eq_true]
  split <;> omega
theorem swoH : SWO (ltOf cmpH) where
  irrefl x := by rw [lt_befH]; unfold befP; simp
  trans x y z h1 h2 := by rw [lt_befH] at *; unfold befP at *; simp at *; omega
  ntrans x y z h1 h2 := by rw [lt_befH] at *; unfold befP at *; simp at *; omega
theorem flat_F (d : List SmS) : flatK encF 2 d.toArray = flatK encP 2 (d.map tP).toArray := by
  apply Array.ext
  · simp
  · intro t h1 h2
    have hs : t < d.length * 2 := by simpa using h1
    have e1 := get_flatK encF 2 d.toArray t (by simpa using h1)
    have e2 := get_flatK encP 2 (d.map tP).toArray t (by simpa using h2)
    rw [getElem!_pos _ t h1] at e1
    rw [getElem!_pos _ t h2] at e2
    rw [e1, e2]
    have hk : t / 2 < d.length := by omega
    have a1 : d.toArray[t / 2]! = d[t / 2] := by simp [hk]
    have a2 : (d.map tP).toArray[t / 2]! = tP d[t / 2] := by simp [hk]
    rw [a1, a2, encF_eq]
theorem world_F (w : World) (g m : Nat) (d : List SmS) (os : Array Obj) : sortWorldK encF 2 w g 0 m d.toArray os = sortWorldK encP 2 w g 0 m (d.map tP).toArray os := by
  unfold sortWorldK putRowK
  rw [flat_F]
theorem merge_srtH (d : List SmS) : (d.mergeSort fun x y => !(ltOf cmpH) y x).map tP = srtP (d.map tP) d.length := by
  have hl : d.length = (d.map tP).length := by simp
  rw [hl]
  refine sorted_one (((List.mergeSort_perm d _).map tP).trans ?_) ?_ (srtP_sorted _ _)
  · have := srtP_perm (d.map tP) (d.map tP).length (Nat.le_refl _)
    rw [List.take_length] at this
    exact this.symm
  · have := List.pairwise_mergeSort (le := fun x y => !(ltOf cmpH) y x) (fun a b c h1 h2 => by
      simp only [lt_befH] at *
      have h3 : LeP (tP a) (tP b) := by unfold LeP; simpa using h1
      have h4 : LeP (tP b) (tP c) := by unfold LeP; simpa using h2
      have h5 := h3.trans h4
      unfold LeP at h5
      simpa using h5) (fun a b => by
      simp only [lt_befH]
      unfold befP; simp; omega) d
    rw [List.pairwise_map]
    refine this.imp ?_
    intro a b h
    simp only [lt_befH] at h
    unfold LeP
    simpa using h
theorem cmpLaysH (blk off size : Nat) (w : World) : CmpLays Tryd.prog 81 #[] encF 2 cmpH blk off size w :=
  fun _ _ _ _ x y => (compareHands_dr x y _).mono fun _ _ ⟨he, hb, hd⟩ => ⟨he, grow_of_below hb hd⟩
/-- Small states come of a list of small numbers. -/
theorem small_of {ps : List (Int × Int)} (h : ∀ x ∈ ps, (0 ≤ x.1 ∧ x.1 < 64) ∧ 0 ≤ x.2 ∧ x.2 < 64) : ∃ d : List SmS, d.map tP = ps := by
  induction ps with
  | nil => exact ⟨[], rfl⟩
  | cons x ps ih =>
    obtain ⟨d, hd⟩ := ih fun y hy => h y (List.mem_cons_of_mem _ hy)
    obtain ⟨⟨a, b⟩, c, e⟩ := h x (by simp)
    refine ⟨(⟨x.1.toNat, by omega⟩, ⟨x.2.toNat, by omega⟩) :: d, ?_⟩
    rw [List.map_cons, hd]
    congr 1
    simp only [tP]
    exact Prod.ext (by show ((x.1.toNat : Nat) : Int) = x.1; omega) (by show ((x.2.toNat : Nat) : Int) = x.2; omega)
theorem SortHands_any (v : Value) (ps : List (Int × Int)) (base : Nat) (w : World) (ho : w.ownsRow base 28 2 v ps.length (P64 ps)) (hn : ps.length ≤ 100000) (hsm : ∀ x ∈ ps, (0 ≤ x.1 ∧ x.1 < 64) ∧ 0 ≤ x.2 ∧ x.2 < 64) :
    Calls Tryd.prog 80 #[v, .func (.func 81) #[] #[]] w fun e w' => e = .returned (.tuple #[]) ∧ w'.ownsRow base 28 2 v ps.length (P64 (srtP ps ps.length)) ∧ Below base w w' := by
  by_cases h0 : ps.length = 0
  · obtain rfl : ps = [] := List.length_eq_zero_iff.1 h0
    obtain ⟨A, c, rfl⟩ := own_form ho
    exact (AnyF.slices_SortFunc_none YtfddibdncniekaaDoor.sortHnd A c _ w).mono fun e w' ⟨he, hw⟩ => by
      subst hw; exact ⟨he, ho, Below.refl _ _⟩
  · obtain ⟨g, c, rfl, _⟩ := ho.form (by omega)
    obtain ⟨d, hd⟩ := small_of hsm
    have hdl : d.length = ps.length := by rw [← hd]; simp
    obtain ⟨hH, hg, hb⟩ := holds_of_ownP ho rfl
    have hHF : HoldsK encF 2 w g 0 d.toArray := by
      unfold HoldsK at hH ⊢
      rw [flat_F, hd]; exact hH
    have eg : ∀ args w, (callFunc 81 args).run Tryd.prog w = .ok (.enter 81 args) w := enters_of Tryd.func81 (by kernel_rfl) rfl
    have hcon := AnyQ.slices_SortFunc_total YtfddibdncniekaaDoor.sortHnd 2 Tryd.isAgg28 Tryd.sizeOf28 encF (fun _ => rfl) (fun x v hv => by simp [encF] at hv; rcases hv with rfl | rfl <;> rfl) cmpH swoH 81 #[] g 0 c d.toArray w eg (cmpLaysH g 0 d.toArray.size w) hHF hg (by simp; omega) (fun x y h1 h2 => by
      rw [lt_befH] at h1 h2
      exact tP_inj (LeP.anti h2 h1))
    have hsz : d.toArray.size = ps.length := by simpa using hdl
    rw [hsz] at hcon
    refine hcon.mono ?_
    rintro e w' ⟨he, n, os, rfl⟩
    rw [world_F, merge_srtH, hd, hdl]
    exact ⟨he, own_sortP ho (by rw [srtP_length]), below_sortP hb hg⟩
end Go.Proofs.YtfddibdncniekaaDoor
