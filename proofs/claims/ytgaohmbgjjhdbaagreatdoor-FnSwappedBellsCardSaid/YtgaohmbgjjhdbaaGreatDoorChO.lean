/- Chimes: the library's sort at pins. -/
import Derived.Test.YtgaohmbgjjhdbaaGreatDoorChT
import Derived.Test.YtgaohmbgjjhdbaaGreatDoorShCp
import Derived.Shelf.SlSortCmp.NoneTotal
import Derived.Sort.OwnSortedInts
namespace Go.Proofs.YtgaohmbgjjhdbaaGreatDoor
open Go.RowKit Go.Lib Go.Sort
attribute [local go_sem ↓] Go.wp_at_zero Go.wp_at_succ

theorem grow_of_below {w w' : World} (hb : Below w.heap.size w w') (hd : w.drawn ≤ w'.drawn) : ∃ q os', w' = Go.Sort.grow (w.drewN q) os' := by
  refine ⟨w'.drawn - w.drawn, w'.heap.extract w.heap.size w'.heap.size, ?_⟩
  obtain ⟨h1, h2, h3, h4, h5⟩ := hb
  obtain ⟨hp, tp, dr, os, out⟩ := w
  obtain ⟨hp', tp', dr', os', out'⟩ := w'
  simp only at h1 h2 h3 h4 h5 hd
  subst h1 h2 h3
  simp only [Go.Sort.grow, World.drewN]
  have e1 : dr + (dr' - dr) = dr' := by omega
  have e2 : hp ++ hp'.extract hp.size hp'.size = hp' := by
    apply Array.ext_getElem?
    intro k
    rw [Array.getElem?_append]
    split
    · rename_i hk; exact (h5 k hk).symm
    · rename_i hk
      rw [Array.getElem?_extract]
      by_cases hk2 : k < hp'.size
      · rw [if_pos (by omega)]; congr 1; omega
      · rw [if_neg (by omega)]; exact (Array.getElem?_eq_none (by omega)).symm
  rw [e1, e2]

theorem dr_alloc (w : World) (o : Obj) : (w.alloc o).drawn = w.drawn := rfl
theorem dr_drew (w : World) : w.drew.drawn = w.drawn + 1 := rfl
theorem dr_drewN (w : World) (n : Nat) : (w.drewN n).drawn = w.drawn + n := rfl
set_option maxHeartbeats 4000000 in
theorem comparePins_dr (p q : Int × Int) (w : World) :
    Calls Tryz.prog 44 #[.agg #[.int .i64 p.1, .int .i64 p.2], .agg #[.int .i64 q.1, .int .i64 q.2]] w fun e w' => e = .returned (.int .i64 (cmpP p q)) ∧ Below w.heap.size w w' ∧ w.drawn ≤ w'.drawn := by
  have HO := Lib.hid (orI_cmp p q)
  obtain ⟨a, b⟩ := p
  obtain ⟨c, d⟩ := q
  simp only at HO
  go_enter Tryz.func44, Tryz.ntmps44
  obtain ⟨k0, k1⟩ := bx2 w 49 49 #[.int .i64 a, .int .i64 b] #[.int .i64 c, .int .i64 d]
  have HSr := Lib.hid (fun (w' : World) (hw : Below (w.heap.size + 1 + 1) ((w.alloc (.cells #[.int .i64 a, .int .i64 b] 49)).alloc (.cells #[.int .i64 c, .int .i64 d] 49)) w') => (⟨(k0.belowB hw (by omega)).cell 0 rfl, (k0.belowB hw (by omega)).cell 1 rfl, (k1.belowB hw (by omega)).cell 0 rfl, (k1.belowB hw (by omega)).cell 1 rfl⟩ : w'.cell? ⟨w.heap.size, 0, none⟩ = some (.int .i64 a) ∧ w'.cell? ⟨w.heap.size, 1, none⟩ = some (.int .i64 b) ∧ w'.cell? ⟨w.heap.size + 1, 0, none⟩ = some (.int .i64 c) ∧ w'.cell? ⟨w.heap.size + 1, 1, none⟩ = some (.int .i64 d)))
  clear k0 k1
  go_wp2_with fail
  go_region_held3 (fun w' => w.drawn ≤ w'.drawn ∧ w'.cell? ⟨w.heap.size, 0, none⟩ = some (.int .i64 a) ∧ w'.cell? ⟨w.heap.size, 1, none⟩ = some (.int .i64 b) ∧ w'.cell? ⟨w.heap.size + 1, 0, none⟩ = some (.int .i64 c) ∧ w'.cell? ⟨w.heap.size + 1, 1, none⟩ = some (.int .i64 d)) (first | assumption | (refine ⟨?_, HSr.out _ ?_⟩; (first | exact Nat.le_refl _ | (simp only [dr_alloc, dr_drew]; omega)); go_grown; done) | go_keep)
    (first
      | (go_at_call 63; refine (Compare_any _ _ _).mono ?_; rintro e w' ⟨rfl, rfl⟩)
      | (go_at_call 62; refine (Or2_any _ (cmpI a c) (cmpI b d) _ (by simp [go_sem]) (by simp [go_sem])).mono ?_; rintro e w' ⟨rfl, rfl⟩))
  all_goals go_wp2
  all_goals (go_ret; exact ⟨ret_i HO.out, by go_grown, by simp only [dr_alloc, dr_drew]; omega⟩)

def encP (x : Int × Int) : List Value := [.int .i64 x.1, .int .i64 x.2]
theorem flat_P64 (ps : List (Int × Int)) : (flatK encP 2 ps.toArray).toList = P64 ps := by
  apply List.ext_getElem?
  intro t
  by_cases h : t < ps.length * 2
  · have h2 : t / 2 < ps.length := by omega
    have e1 : (flatK encP 2 ps.toArray).toList[t]? = some (flatK encP 2 ps.toArray)[t]! := by
      have hs : t < (flatK encP 2 ps.toArray).size := by simpa using h
      rw [Array.getElem?_toList, Array.getElem?_eq_getElem hs, getElem!_pos _ t hs]
    rw [e1, get_flatK encP 2 ps.toArray t (by simpa using h)]
    have e2 : ps.toArray[t / 2]! = pi ps (t / 2) := by rw [pi_eq h2]; simp [h2]
    rw [e2]
    rcases Nat.mod_two_eq_zero_or_one t with hr | hr
    · have := (P64_get h2).1
      rw [show t / 2 * 2 = t by omega] at this
      rw [this, hr]; rfl
    · have := (P64_get h2).2
      rw [show t / 2 * 2 + 1 = t by omega] at this
      rw [this, hr]; rfl
  · rw [List.getElem?_eq_none (by simp; omega), List.getElem?_eq_none (by rw [P64_length]; omega)]
theorem holds_of_ownP {w : World} {base g n c : Nat} {e : TypeId} {ps : List (Int × Int)} (h : w.ownsRow base e 2 (.slice (some ⟨g, 0, none⟩) n c) n (P64 ps)) (hl : ps.length = n) : HoldsK encP 2 w g 0 ps.toArray ∧ g < w.heap.size ∧ base ≤ g := by
  have h0 := h.lt g rfl
  refine ⟨fun j hj => ?_, h0.2, h0.1⟩
  have hj' : j < ps.length * 2 := by simpa using hj
  constructor
  · rw [Nat.zero_add, h.cellAt j (by omega), ← flat_P64, Array.getElem?_toList, Array.getElem?_eq_getElem hj, getElem!_pos _ j hj]; rfl
  · rcases h.2 with ⟨e0, _⟩ | ⟨g', cap', cur, e0, _, hg, _⟩
    · cases e0
    · injection e0 with e1 _ _
      injection e1 with e1
      injection e1 with e1
      subst e1
      simp [World.frozen?, hg]
theorem own_sortP {w : World} {base g n c m : Nat} {e : TypeId} {ps qs : List (Int × Int)} {os : Array Obj} (h : w.ownsRow base e 2 (.slice (some ⟨g, 0, none⟩) n c) n (P64 ps)) (hq : qs.length = n) :
    (sortWorldK encP 2 w g 0 m qs.toArray os).ownsRow base e 2 (.slice (some ⟨g, 0, none⟩) n c) n (P64 qs) := by
  rcases h.2 with ⟨e0, _⟩ | ⟨g', cap', cur, e0, hb, hg, hn, hm, hs, ht⟩
  · cases e0
  · injection e0 with e1 _ e3
    injection e1 with e1
    injection e1 with e1
    subst e1; subst e3
    have hlt : g < w.heap.size := (Array.getElem?_eq_some_iff.1 hg).1
    refine ⟨by rw [P64_length, hq], .inr ⟨g, c, putCells id 0 (flatK encP 2 qs.toArray) cur, rfl, hb, ?_, hn, hm, by simpa [putCells] using hs, ?_⟩⟩
    · unfold sortWorldK
      rw [heap_grow_old _ _ (by simpa [putRowK, putRow, mapBlock, Sort.ahead] using hlt)]
      simp [putRowK, putRow, mapBlock, Sort.ahead, Array.getElem?_modify, hg, onCells]
    · rw [← flat_P64]
      have hF : (flatK encP 2 qs.toArray).size = n * 2 := by simp [hq]
      apply List.ext_getElem?
      intro j
      rw [List.getElem?_take, Array.getElem?_toList, Array.getElem?_toList]
      by_cases hj : j < n * 2
      · have hjc : j < cur.size := by rw [hs]; exact Nat.lt_of_lt_of_le hj (Nat.mul_le_mul_right 2 hn)
        rw [if_pos hj, putCells, Array.getElem?_mapIdx, Array.getElem?_eq_getElem hjc, Option.map_some, if_pos (by omega), Nat.sub_zero]
        rw [Array.getElem?_eq_getElem (by omega), getElem!_pos _ j (by omega)]; rfl
      · rw [if_neg hj, Array.getElem?_eq_none (by omega)]
theorem below_sortP {w : World} {base g m : Nat} {qs : List (Int × Int)} {os : Array Obj} (hb : base ≤ g) (hg : g < w.heap.size) : Below base w (sortWorldK encP 2 w g 0 m qs.toArray os) :=
  ⟨rfl, rfl, rfl, by simp [sortWorldK, Go.Sort.grow, putRowK, putRow, mapBlock, Sort.ahead], fun k hk => by
    unfold sortWorldK
    rw [heap_grow_old _ _ (by simp [putRowK, putRow, mapBlock, Sort.ahead]; omega)]
    simp [putRowK, putRow, mapBlock, Sort.ahead, Array.getElem?_modify, show g ≠ k by omega]⟩

theorem lt_bef (x y : Int × Int) : ltOf cmpP x y = befP x y := by
  have h := cmpP_bef x y
  unfold ltOf
  cases hb : befP x y
  · rw [hb] at h; simp at h; simp; exact h
  · rw [hb] at h; simp at h; simp; exact h
theorem swoP : SWO (ltOf cmpP) where
  irrefl x := by rw [lt_bef]; unfold befP; simp
  trans x y z h1 h2 := by rw [lt_bef] at *; unfold befP at *; simp at *; omega
  ntrans x y z h1 h2 := by rw [lt_bef] at *; unfold befP at *; simp at *; omega
theorem merge_srtP (ps : List (Int × Int)) : (ps.mergeSort fun x y => !(ltOf cmpP) y x) = srtP ps ps.length := by
  refine sorted_one ((List.mergeSort_perm _ _).trans ?_) ?_ (srtP_sorted _ _)
  · have := srtP_perm ps ps.length (Nat.le_refl _)
    rw [List.take_length] at this
    exact this.symm
  · have := List.pairwise_mergeSort (le := fun x y => !(ltOf cmpP) y x) (fun a b c h1 h2 => by
      simp only [lt_bef] at *
      have h3 : LeP a b := by unfold LeP; simpa using h1
      have h4 : LeP b c := by unfold LeP; simpa using h2
      have h5 := h3.trans h4
      unfold LeP at h5
      simpa using h5) (fun a b => by
      simp only [lt_bef]
      unfold befP; simp; omega) ps
    refine this.imp ?_
    intro a b h
    simp only [lt_bef] at h
    unfold LeP
    simpa using h
theorem cmpLaysP (blk off size : Nat) (w : World) : CmpLays Tryz.prog 44 #[] encP 2 cmpP blk off size w :=
  fun _ _ _ _ x y => (comparePins_dr x y _).mono fun _ _ ⟨he, hb, hd⟩ => ⟨he, grow_of_below hb hd⟩

theorem SortPins_any (v : Value) (ps : List (Int × Int)) (base : Nat) (w : World) (ho : w.ownsRow base 49 2 v ps.length (P64 ps)) (hn : ps.length ≤ 100000) :
    Calls Tryz.prog 47 #[v, .func (.func 44) #[] #[]] w fun e w' => e = .returned (.tuple #[]) ∧ w'.ownsRow base 49 2 v ps.length (P64 (srtP ps ps.length)) ∧ Below base w w' := by
  by_cases h0 : ps.length = 0
  · obtain rfl : ps = [] := List.length_eq_zero_iff.1 h0
    obtain ⟨A, c, rfl⟩ := own_form ho
    exact (AnyF.slices_SortFunc_none YtgaohmbgjjhdbaaGreatDoor.sortPin A c _ w).mono fun e w' ⟨he, hw⟩ => by
      subst hw; exact ⟨he, ho, Below.refl _ _⟩
  · obtain ⟨g, c, rfl, _⟩ := ho.form (by omega)
    obtain ⟨hH, hg, hb⟩ := holds_of_ownP ho rfl
    have eg : ∀ args w, (callFunc 44 args).run Tryz.prog w = .ok (.enter 44 args) w := enters_of Tryz.func44 (by kernel_rfl) rfl
    have hcon := AnyQ.slices_SortFunc_total YtgaohmbgjjhdbaaGreatDoor.sortPin 2 Tryz.isAgg49 Tryz.sizeOf49 encP (fun _ => rfl) (fun x v hv => by simp [encP] at hv; rcases hv with rfl | rfl <;> rfl) cmpP swoP 44 #[] g 0 c ps.toArray w eg (cmpLaysP g 0 ps.toArray.size w) hH hg (by simp; omega) (fun x y h1 h2 => by
      rw [lt_bef] at h1 h2
      exact LeP.anti h2 h1)
    refine hcon.mono ?_
    rintro e w' ⟨he, n, os, rfl⟩
    rw [merge_srtP]
    exact ⟨he, own_sortP ho (by rw [srtP_length]), below_sortP hb hg⟩
end Go.Proofs.YtgaohmbgjjhdbaaGreatDoor
