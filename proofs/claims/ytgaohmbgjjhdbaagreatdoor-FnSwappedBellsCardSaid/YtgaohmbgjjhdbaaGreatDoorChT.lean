/- Chimes: pins in order (srtP), and the reference's l22Sort. -/
import Derived.Test.YtgaohmbgjjhdbaaGreatDoorApP
import Derived.Test.YtgaohmbgjjhdbaaGreatDoorChV
namespace Go.Proofs.YtgaohmbgjjhdbaaGreatDoor
open Go.RowKit
attribute [local go_sem ↓] Go.wp_at_zero Go.wp_at_succ
attribute [local go_sem] cell?_grow frozen?_grow

/-- How many stay ahead when x is put among the first k. -/
def plc (x : Int × Int) (o : List (Int × Int)) : Nat → Nat
  | 0 => 0
  | k + 1 => if befP x (pi o k) = true then plc x o k else k + 1
theorem plc_le (x : Int × Int) (o : List (Int × Int)) : ∀ k, plc x o k ≤ k
  | 0 => Nat.le_refl _
  | k + 1 => by rw [plc]; split; have := plc_le x o k; omega; omega
def insP (x : Int × Int) (o : List (Int × Int)) : List (Int × Int) := o.take (plc x o o.length) ++ [x] ++ o.drop (plc x o o.length)
theorem insP_length (x : Int × Int) (o : List (Int × Int)) : (insP x o).length = o.length + 1 := by
  have := plc_le x o o.length
  simp [insP]; omega
/-- ps in order, made by putting one after the other among those before. -/
def srtP (ps : List (Int × Int)) : Nat → List (Int × Int)
  | 0 => []
  | k + 1 => insP (pi ps k) (srtP ps k)
theorem srtP_length (ps : List (Int × Int)) : ∀ k, (srtP ps k).length = k
  | 0 => rfl
  | k + 1 => by rw [srtP, insP_length, srtP_length ps k]
theorem insP_perm (x : Int × Int) (o : List (Int × Int)) : (insP x o).Perm (x :: o) := by
  unfold insP
  have h : (o.take (plc x o o.length) ++ [x] ++ o.drop (plc x o o.length)).Perm (x :: (o.take (plc x o o.length) ++ o.drop (plc x o o.length))) := by
    rw [List.append_assoc]; exact List.perm_middle
  rwa [List.take_append_drop] at h
theorem srtP_perm (ps : List (Int × Int)) : ∀ k, k ≤ ps.length → (srtP ps k).Perm (ps.take k)
  | 0, _ => by simp [srtP]
  | k + 1, h => by
    have h1 := (insP_perm (pi ps k) (srtP ps k)).trans ((srtP_perm ps k (by omega)).cons (pi ps k))
    have e : ps.take (k + 1) = ps.take k ++ [pi ps k] := by rw [pi_eq (by omega)]; exact List.take_succ_eq_append_getElem (by omega)
    rw [e]
    exact h1.trans (List.perm_append_comm (l₁ := [pi ps k]) (l₂ := ps.take k))
/-- p does not stand behind q. -/
def LeP (p q : Int × Int) : Prop := befP q p = false
theorem LeP.trans {a b c : Int × Int} (h1 : LeP a b) (h2 : LeP b c) : LeP a c := by
  unfold LeP befP at *; simp at *; omega
theorem LeP.total {a b : Int × Int} (h : befP a b = true) : LeP a b := by
  unfold LeP befP at *; simp at *; omega
theorem LeP.anti {a b : Int × Int} (h1 : LeP a b) (h2 : LeP b a) : a = b := by
  obtain ⟨x, y⟩ := a; obtain ⟨u, v⟩ := b
  unfold LeP befP at *; simp at *; omega
theorem plc_at (x : Int × Int) (o : List (Int × Int)) : ∀ k, (∀ j, plc x o k ≤ j → j < k → befP x (pi o j) = true) ∧ (0 < plc x o k → LeP (pi o (plc x o k - 1)) x)
  | 0 => ⟨fun j _ h => by omega, fun h => by simp [plc] at h⟩
  | k + 1 => by
    rw [plc]
    split
    · rename_i hb
      obtain ⟨h1, h2⟩ := plc_at x o k
      refine ⟨fun j hj hj2 => ?_, h2⟩
      by_cases h : j < k
      · exact h1 j hj h
      · obtain rfl : j = k := by omega
        exact hb
    · rename_i hb
      exact ⟨fun j h1 h2 => by omega, fun _ => by unfold LeP; simpa using hb⟩
theorem LeP.rfl_ (a : Int × Int) : LeP a a := by unfold LeP befP; simp
theorem ins_sorted {x : Int × Int} {o : List (Int × Int)} {k : Nat} (h : o.Pairwise LeP) (hk : k ≤ o.length) (h1 : ∀ j, k ≤ j → j < o.length → befP x (pi o j) = true) (h2 : 0 < k → LeP (pi o (k - 1)) x) : (o.take k ++ [x] ++ o.drop k).Pairwise LeP := by
  have hs := List.pairwise_iff_getElem.1 h
  have hle : ∀ i j, i ≤ j → j < o.length → LeP (pi o i) (pi o j) := fun i j hij hj => by
    rcases Nat.lt_or_ge i j with hlt | hge
    · rw [pi_eq (by omega), pi_eq hj]; exact hs i j (by omega) hj hlt
    · obtain rfl : i = j := by omega
      exact LeP.rfl_ _
  have ht : ∀ a ∈ o.take k, ∃ i, i < k ∧ a = pi o i := fun a ha => by
    obtain ⟨i, hi, rfl⟩ := List.getElem_of_mem ha
    simp at hi
    exact ⟨i, by omega, by rw [pi_eq (by omega)]; simp⟩
  have hd : ∀ a ∈ o.drop k, ∃ j, k ≤ j ∧ j < o.length ∧ a = pi o j := fun a ha => by
    obtain ⟨i, hi, rfl⟩ := List.getElem_of_mem ha
    simp at hi
    exact ⟨k + i, by omega, by omega, by rw [pi_eq (by omega)]; simp⟩
  refine List.pairwise_append.2 ⟨List.pairwise_append.2 ⟨h.sublist (List.take_sublist _ _), by simp, fun a ha b hb => ?_⟩, h.sublist (List.drop_sublist _ _), fun a ha b hb => ?_⟩
  · obtain ⟨i, hi, rfl⟩ := ht a ha
    obtain rfl : b = x := by simpa using hb
    exact (hle i (k - 1) (by omega) (by omega)).trans (h2 (by omega))
  · obtain ⟨j, hj1, hj2, rfl⟩ := hd b hb
    rcases List.mem_append.1 ha with ha | ha
    · obtain ⟨i, hi, rfl⟩ := ht a ha
      exact hle i j (by omega) hj2
    · obtain rfl : a = x := by simpa using ha
      exact LeP.total (h1 j hj1 hj2)
theorem srtP_sorted (ps : List (Int × Int)) : ∀ k, (srtP ps k).Pairwise LeP
  | 0 => List.Pairwise.nil
  | k + 1 => by
    obtain ⟨h1, h2⟩ := plc_at (pi ps k) (srtP ps k) (srtP ps k).length
    exact ins_sorted (srtP_sorted ps k) (plc_le _ _ _) h1 h2
theorem sorted_one : ∀ {l1 l2 : List (Int × Int)}, l1.Perm l2 → l1.Pairwise LeP → l2.Pairwise LeP → l1 = l2
  | [], l2, hp, _, _ => hp.nil_eq
  | a :: t, l2, hp, h1, h2 => by
    cases l2 with
    | nil => exact absurd hp.length_eq (by simp)
    | cons b u =>
      have hab : a = b := by
        have ma : a ∈ b :: u := hp.mem_iff.1 (by simp)
        have mb : b ∈ a :: t := hp.mem_iff.2 (by simp)
        rcases List.mem_cons.1 ma with e | e
        · exact e
        · rcases List.mem_cons.1 mb with f | f
          · exact f.symm
          · exact LeP.anti ((List.pairwise_cons.1 h1).1 b f) ((List.pairwise_cons.1 h2).1 a e)
      subst hab
      rw [sorted_one ((List.perm_cons a).1 hp) (List.pairwise_cons.1 h1).2 (List.pairwise_cons.1 h2).2]

theorem own_cap {w : World} {base n c : Nat} {A : Option Addr} {e : TypeId} {cs : List Value} {m : Nat} (h : w.ownsRow base e 2 (.slice A m c) n cs) : n ≤ c := by
  obtain ⟨A', c', e, h1, _⟩ := SlC.of_own h
  injection e with _ _ e3
  subst e3; exact h1
theorem own_litQ {base : Nat} (w : World) (H : Nat) (hH : w.heap.size = H) (hb : base ≤ H) (t : TypeId) : (w.alloc (.cells #[] t)).ownsRow base t 2 (.slice (some ⟨H, 0, none⟩) 0 0) ([] : List (Int × Int)).length (P64 []) := by
  subst hH
  exact World.ownsRow_lit w #[] 0 hb (by decide) rfl
theorem slp_zero (g : Nat) (w : World) : SlP w (.slice (some ⟨g, 0, none⟩) 0 0) [] := ⟨some ⟨g, 0, none⟩, 0, rfl, Nat.le_refl _, Nat.zero_le _, fun h => absurd h (by simp [P64])⟩
theorem P64_take : ∀ (o : List (Int × Int)) (k : Nat), P64 (o.take k) = (P64 o).take (k * 2)
  | [], k => by simp [P64]
  | p :: o, 0 => by simp [P64]
  | p :: o, k + 1 => by rw [Nat.add_mul]; simp [P64, P64_take o k]
theorem P64_drop : ∀ (o : List (Int × Int)) (k : Nat), P64 (o.drop k) = (P64 o).drop (k * 2)
  | [], k => by simp [P64]
  | p :: o, 0 => by simp [P64]
  | p :: o, k + 1 => by rw [Nat.add_mul]; simp [P64, P64_drop o k]
theorem slp_cut {w w' : World} {g n k c : Nat} {o : List (Int × Int)} (h : SlP w (.slice (some ⟨g, 0, none⟩) n c) o) (hk : k ≤ o.length) (hc : k ≤ c) (hw : Below w.heap.size w w') : SlP w' (.slice (some ⟨g, 0, none⟩) k c) (o.take k) := by
  obtain ⟨A, d, e, h1, h2, h3⟩ := h.below hw
  injection e with e1 e2 e3
  subst e1 e3
  have hl : (o.take k).length = k := by simp; omega
  refine ⟨_, c, by rw [hl], by omega, h2, fun h0 => ?_⟩
  rw [P64_length, hl] at h0
  obtain ⟨b, q, e, hb, hcc⟩ := h3 (by rw [P64_length]; omega)
  refine ⟨b, q, e, hb, fun j hj => ?_⟩
  rw [P64_length, hl] at hj
  rw [hcc j (by rw [P64_length]; omega), P64_take, List.getElem?_take, if_pos hj]
theorem slp_tail {w w' : World} {g n k c : Nat} {o : List (Int × Int)} (h : SlP w (.slice (some ⟨g, 0, none⟩) n c) o) (hk : k ≤ o.length) (hc : k ≤ c) (hn : o.length = n) (hw : Below w.heap.size w w') : SlP w' (.slice (some ⟨g, k * 2, none⟩) (n - k) (c - k)) (o.drop k) := by
  obtain ⟨A, d, e, h1, h2, h3⟩ := h.below hw
  injection e with e1 e2 e3
  subst e1 e3 hn
  have hl : (o.drop k).length = o.length - k := by simp
  refine ⟨_, c - k, by rw [hl], by omega, by omega, fun h0 => ?_⟩
  rw [P64_length, hl] at h0
  obtain ⟨b, q, e, hb, hcc⟩ := h3 (by rw [P64_length]; omega)
  injection e with e
  injection e with e1 e2
  subst e1 e2
  refine ⟨g, k * 2, rfl, hb, fun j hj => ?_⟩
  rw [P64_length, hl] at hj
  have := hcc (k * 2 + j) (by rw [P64_length]; omega)
  rw [Nat.zero_add] at this
  rw [this, P64_drop, List.getElem?_drop]

set_option maxRecDepth 100000 in
set_option maxHeartbeats 16000000 in
theorem l22Sort_any (v : Value) (ps : List (Int × Int)) (w : World) (hv : SlP w v ps) (hn : ps.length ≤ 100000) :
    Calls Tryz.prog 27 #[v] w fun e w' => ∃ v', e = .returned v' ∧ w'.ownsRow w.heap.size 49 2 v' (srtP ps ps.length).length (P64 (srtP ps ps.length)) ∧ Below w.heap.size w w' := by
  obtain ⟨A, cA, rfl, hac, hac', HA⟩ := hv.open_
  have HO0 := Lib.hid (own_litQ (base := w.heap.size) w w.heap.size rfl (Nat.le_refl _) 49)
  clear hv
  go_enter Tryz.func27, Tryz.ntmps27
  go_wp2_with fail
  go_loopw [3, 4] (fun q i wr => ∃ j g c : Nat, j ≤ ps.length ∧ i = .int .i64 j ∧ q = .slice (some ⟨g, 0, none⟩) j c ∧ j ≤ c ∧ wr.ownsRow w.heap.size 49 2 (.slice (some ⟨g, 0, none⟩) j c) (srtP ps j).length (P64 (srtP ps j)) ∧ Below w.heap.size w wr) (fun _ i _ => ps.length - (intOf i).toNat)
  case atStart => exact ⟨0, w.heap.size, 0, Nat.zero_le _, rfl, rfl, Nat.le_refl _, HO0.out, by go_grown⟩
  case round =>
    obtain ⟨j, g, c, hj, rfl, rfl, hjc, ho, hB⟩ := hrel
    obtain ⟨wo, rfl⟩ : ∃ x : World, x = wr := ⟨_, rfl⟩
    have HO := Lib.hid ho
    have HB := Lib.hid hB
    have hsz := hB.size
    clear ho hB HO0
    by_cases hlt : j < ps.length
    · obtain ⟨ba, oa, rfl, hba, hca⟩ := HA.out j hlt
      have HCL := Lib.hid (fun (w' : World) (hw : Below w.heap.size w w') => (⟨(hw.cell (p := ⟨ba, oa + j * 2, none⟩) hba).trans (hca j hlt).1, (hw.cell (p := ⟨ba, oa + (j * 2 + 1), none⟩) hba).trans (hca j hlt).2, Nat.lt_of_lt_of_le hba hw.size⟩ : w'.cell? ⟨ba, oa + j * 2, none⟩ = some (.int .i64 (pi ps j).1) ∧ w'.cell? ⟨ba, oa + j * 2 + 1, none⟩ = some (.int .i64 (pi ps j).2) ∧ ba < w'.heap.size))
      have i7 : (j : Int) < (ps.length : Int) := by omega
      clear hca HA
      have hjl : (srtP ps j).length = j := srtP_length ps j
      have HJ := Lib.hid hjl
      clear hjl
      go_wp2_with fail
      go_loopw [5] (fun x wr => ∃ k : Nat, k ≤ j ∧ x = .int .i64 k ∧ plc (pi ps j) (srtP ps j) j = plc (pi ps j) (srtP ps j) k ∧ Below wo.heap.size wo wr) (fun x _ => (intOf x).toNat)
      case atStart => exact ⟨j, Nat.le_refl _, rfl, rfl, Below.refl _ _⟩
      case round =>
        obtain ⟨k, hk, rfl, hpl, hBw⟩ := hrel
        obtain ⟨wi, rfl⟩ : ∃ x : World, x = wr := ⟨_, rfl⟩
        have HBI := Lib.hid hBw
        have HOI := Lib.hid (own_below HO.out hBw)
        have HPL := Lib.hid hpl
        clear hpl hBw
        by_cases hk0 : k = 0
        · have HPL : Hid (plc (pi ps j) (srtP ps j) j = k) := by show _ = _; rw [HPL.out, hk0]; rfl
          have j2 : decide ((0 : Int) < (k : Int)) = false := decide_eq_false (by omega)
          have j3 : decide (0 < k) = false := decide_eq_false (by omega)
          clear hk0
          go_wp2_with fail
          refine wp_region_grow (by kernel_rfl) (by kernel_rfl) ?_
          repeat (go_big_quiet_step (fail))
          refine wpQuiet_nil ?_
          intro wq hbq
          have HBW : Hid (Below wo.heap.size wo wq) := HBI.out.trans (hbq.mono HBI.out.size)
          clear hbq HBI HOI
          have HOQ := Lib.hid (own_below HO.out HBW.out)
          have hjl : (srtP ps j).length = j := HJ.out
          have hkl : k ≤ (srtP ps j).length := by omega
          have gz : g < wq.heap.size := (HOQ.out.lt g rfl).2
          have HS1 : Hid (∀ w', Below wq.heap.size wq w' → SlP w' (.slice (some ⟨g, 0, none⟩) k c) ((srtP ps j).take k)) := fun w' hw => slp_cut (SlP.of_own HOQ.out) hkl (by omega) hw
          have HS2 : Hid (∀ w', Below wq.heap.size wq w' → SlP w' (.slice (some ⟨g, k * 2, none⟩) (j - k) (c - k)) ((srtP ps j).drop k)) := fun w' hw => slp_tail (SlP.of_own HOQ.out) hkl (by omega) hjl hw
          have HS3 : Hid (c = k → ∀ w', SlP w' (.slice (some ⟨g, 0, none⟩) 0 0) ((srtP ps j).drop k)) := fun e w' => by
            have h0 : (srtP ps j).drop k = [] := List.drop_eq_nil_of_le (by rw [hjl]; omega)
            rw [h0]; exact slp_zero g w'
          have hE : (srtP ps j).take k ++ [((pi ps j).1, (pi ps j).2)] ++ (srtP ps j).drop k = srtP ps (j + 1) := by
            show _ = insP _ _
            rw [insP, hjl, HPL.out]
          have HE := Lib.hid hE
          have HTL : Hid (((srtP ps j).take k).length ≤ 1048576) := Nat.le_trans (List.length_take_le' _ _) (by omega)
          have HDL : Hid (((srtP ps j).drop k).length ≤ 1048576) := by show _ ≤ _; rw [List.length_drop]; omega
          have HTL2 : Hid (((srtP ps j).take k ++ [((pi ps j).1, (pi ps j).2)]).length ≤ 1048576) := by show _ ≤ _; rw [List.length_append, List.length_singleton]; have := List.length_take_le' k (srtP ps j); omega
          have HOL := Lib.hid (own_litQ (base := wq.heap.size) wq wq.heap.size rfl (Nat.le_refl _) 49)
          have BQ : Below w.heap.size w wq := HB.out.trans (HBW.out.mono hsz)
          have HBQ := Lib.hid BQ
          have szq := BQ.size
          have i4 : (k : Int) ≤ (c : Int) := by omega
          have i5 : (k : Int) ≤ (j : Int) := by omega
          have i6 : (0 : Int) ≤ (k : Int) := by omega
          have i8 : (j : Int) ≤ (c : Int) := by omega
          have i9 : k ≤ c := by omega
          have i10 : k ≤ j := by omega
          clear hkl hjl BQ hE
          by_cases hck : k = c
          · have HS3' := Lib.hid (HS3.out hck.symm)
            subst hck
            clear HS2 HS3
            go_wp2_with (first
              | (at_builtin; refine wpList_appP (by first | rfl | (simp [Region.wanted, yielded]; done)) _ _ rfl wq.heap.size _ [] rfl HOL.out _ rfl _ (HS1.out (wq.alloc (.cells #[] 49)) (by go_grown)) ((srtP ps j).take k) (List.nil_append _) (by decide) (by first | exact HTL.out) (by simp) ?_; intro v6 w6 ho6 hb6 hg6; have HO6 := Lib.hid ho6; have HB6 : Hid (Below wq.heap.size wq w6) := (Below.trans (by go_grown) hb6); obtain ⟨a0, a1, az⟩ := HCL.out w6 (HBQ.out.trans (HB6.out.mono szq)); clear ho6 hb6 hg6 HOL)
              | (at_builtin; refine wpList_appPin rfl _ _ rfl wq.heap.size _ ((srtP ps j).take k) rfl HO6.out (pi ps j).1 (pi ps j).2 w6.heap.size rfl rfl (by have := HTL.out; omega) HB6.out.size ?_; intro v7 w7 ho7 hb7 hg7; have HO7 := Lib.hid ho7; have HB7 : Hid (Below wq.heap.size wq w7) := (HB6.out.trans hb7); clear ho7 hb7 hg7 HO6 a0 a1 az)
              | (at_builtin; refine wpList_appP (by first | rfl | (simp [Region.wanted, yielded]; done)) _ _ rfl wq.heap.size _ _ rfl HO7.out _ rfl _ (HS3'.out w7) (srtP ps (j + 1)) HE.out (by first | exact HTL2.out) (by first | exact HDL.out) HB7.out.size ?_; intro v8 w8 ho8 hb8 hg8; have HO8 := Lib.hid ho8; have HB8 : Hid (Below wq.heap.size wq w8) := (HB7.out.trans hb8); clear ho8 hb8 hg8 HO7))
            obtain ⟨g8, c8, e8, h8⟩ := HO8.out.form (by rw [srtP_length]; omega)
            have e9 : v8 = .slice (some ⟨g8, 0, none⟩) (j + 1) c8 := by rw [e8, srtP_length]
            have HO9 : Hid (w8.ownsRow w.heap.size 49 2 (.slice (some ⟨g8, 0, none⟩) (j + 1) c8) (srtP ps (j + 1)).length (P64 (srtP ps (j + 1)))) := by have h := HO8.out; rw [e9] at h; exact own_mono h szq
            have H9 : Hid (j + 1 ≤ c8) := by show _ ≤ _; have := own_cap HO9.out; rwa [srtP_length] at this
            clear h8 e8
            subst e9
            go_roundw
            case rel => exact ⟨j + 1, g8, c8, by omega, by go_num, rfl, H9.out, HO9.out, HBQ.out.trans (HB8.out.mono szq)⟩
            case measure => simp [intOf]; omega
          · clear HS3
            go_wp2_with (first
              | (at_builtin; refine wpList_appP (by first | rfl | (simp [Region.wanted, yielded]; done)) _ _ rfl wq.heap.size _ [] rfl HOL.out _ rfl _ (HS1.out (wq.alloc (.cells #[] 49)) (by go_grown)) ((srtP ps j).take k) (List.nil_append _) (by decide) (by first | exact HTL.out) (by simp) ?_; intro v6 w6 ho6 hb6 hg6; have HO6 := Lib.hid ho6; have HB6 : Hid (Below wq.heap.size wq w6) := (Below.trans (by go_grown) hb6); obtain ⟨a0, a1, az⟩ := HCL.out w6 (HBQ.out.trans (HB6.out.mono szq)); clear ho6 hb6 hg6 HOL)
              | (at_builtin; refine wpList_appPin rfl _ _ rfl wq.heap.size _ ((srtP ps j).take k) rfl HO6.out (pi ps j).1 (pi ps j).2 w6.heap.size rfl rfl (by have := HTL.out; omega) HB6.out.size ?_; intro v7 w7 ho7 hb7 hg7; have HO7 := Lib.hid ho7; have HB7 : Hid (Below wq.heap.size wq w7) := (HB6.out.trans hb7); clear ho7 hb7 hg7 HO6 a0 a1 az)
              | (at_builtin; refine wpList_appP (by first | rfl | (simp [Region.wanted, yielded]; done)) _ _ rfl wq.heap.size _ _ rfl HO7.out _ rfl _ (HS2.out w7 HB7.out) (srtP ps (j + 1)) HE.out (by first | exact HTL2.out) (by first | exact HDL.out) HB7.out.size ?_; intro v8 w8 ho8 hb8 hg8; have HO8 := Lib.hid ho8; have HB8 : Hid (Below wq.heap.size wq w8) := (HB7.out.trans hb8); clear ho8 hb8 hg8 HO7))
            obtain ⟨g8, c8, e8, h8⟩ := HO8.out.form (by rw [srtP_length]; omega)
            have e9 : v8 = .slice (some ⟨g8, 0, none⟩) (j + 1) c8 := by rw [e8, srtP_length]
            have HO9 : Hid (w8.ownsRow w.heap.size 49 2 (.slice (some ⟨g8, 0, none⟩) (j + 1) c8) (srtP ps (j + 1)).length (P64 (srtP ps (j + 1)))) := by have h := HO8.out; rw [e9] at h; exact own_mono h szq
            have H9 : Hid (j + 1 ≤ c8) := by show _ ≤ _; have := own_cap HO9.out; rwa [srtP_length] at this
            clear h8 e8
            subst e9
            go_roundw
            case rel => exact ⟨j + 1, g8, c8, by omega, by go_num, rfl, H9.out, HO9.out, HBQ.out.trans (HB8.out.mono szq)⟩
            case measure => simp [intOf]; omega

        · have hkk : (k - 1) < (srtP ps j).length := by rw [HJ.out]; omega
          have hoi : wi.ownsRow w.heap.size 49 2 (.slice (some ⟨g, 0, none⟩) j c) j (P64 (srtP ps j)) := by have h := HOI.out; rw [HJ.out] at h; exact h
          have z1 := hoi.cellAt ((k - 1) * 2) (by have := HJ.out; omega)
          have z2 := hoi.cellAt ((k - 1) * 2 + 1) (by have := HJ.out; omega)
          rw [(P64_get hkk).1] at z1
          rw [(P64_get hkk).2] at z2
          obtain ⟨a0, a1, az⟩ := HCL.out wi (HB.out.trans (HBI.out.mono hsz))
          have gz0 : g < wi.heap.size := (HOI.out.lt g rfl).2
          have j1 : (0 : Int) < (k : Int) := by omega
          have j2 : decide ((0 : Int) < (k : Int)) = true := decide_eq_true j1
          have j3 : decide (0 < k) = true := decide_eq_true (by omega)
          have j4 : 0 ≤ (k : Int) - 1 := by omega
          have j5 : (k : Int) - 1 < (j : Int) := by omega
          have e3 : IntKind.i64.wrap ((k : Int) - 1) = (k : Int) - 1 := IntWalk.i64_in _ (by omega)
          have e4 : ((k : Int) - 1).toNat = k - 1 := by omega
          cases h6 : befP (pi ps j) (pi (srtP ps j) (k - 1)) with
          | false =>
            have HPL : Hid (plc (pi ps j) (srtP ps j) j = k) := by
              show _ = _
              rw [HPL.out]
              obtain ⟨q, rfl⟩ : ∃ q, k = q + 1 := ⟨k - 1, by omega⟩
              rw [plc, if_neg (by rw [show q + 1 - 1 = q from rfl] at h6; rw [h6]; simp)]
            have H6 := Lib.hid h6
            clear h6 hkk hoi
            go_wp2_with fail
            refine wp_region_grow (by kernel_rfl) (by kernel_rfl) ?_
            repeat (go_big_quiet_step ((go_at_call 49; first | with_reducible exact grow_of (l22Before_r (pi ps j) (pi (srtP ps j) (k - 1)) _ _ H6.out))))
            refine wpQuiet_nil ?_
            intro wq hbq
            have HBW : Hid (Below wo.heap.size wo wq) := HBI.out.trans (hbq.mono HBI.out.size)
            clear hbq HBI HOI z1 z2 a0 a1 az e3 e4 j4 j5
            have HOQ := Lib.hid (own_below HO.out HBW.out)
            have hjl : (srtP ps j).length = j := HJ.out
            have hkl : k ≤ (srtP ps j).length := by omega
            have gz : g < wq.heap.size := (HOQ.out.lt g rfl).2
            have HS1 : Hid (∀ w', Below wq.heap.size wq w' → SlP w' (.slice (some ⟨g, 0, none⟩) k c) ((srtP ps j).take k)) := fun w' hw => slp_cut (SlP.of_own HOQ.out) hkl (by omega) hw
            have HS2 : Hid (∀ w', Below wq.heap.size wq w' → SlP w' (.slice (some ⟨g, k * 2, none⟩) (j - k) (c - k)) ((srtP ps j).drop k)) := fun w' hw => slp_tail (SlP.of_own HOQ.out) hkl (by omega) hjl hw
            have HS3 : Hid (c = k → ∀ w', SlP w' (.slice (some ⟨g, 0, none⟩) 0 0) ((srtP ps j).drop k)) := fun e w' => by
              have h0 : (srtP ps j).drop k = [] := List.drop_eq_nil_of_le (by rw [hjl]; omega)
              rw [h0]; exact slp_zero g w'
            have hE : (srtP ps j).take k ++ [((pi ps j).1, (pi ps j).2)] ++ (srtP ps j).drop k = srtP ps (j + 1) := by
              show _ = insP _ _
              rw [insP, hjl, HPL.out]
            have HE := Lib.hid hE
            have HTL : Hid (((srtP ps j).take k).length ≤ 1048576) := Nat.le_trans (List.length_take_le' _ _) (by omega)
            have HDL : Hid (((srtP ps j).drop k).length ≤ 1048576) := by show _ ≤ _; rw [List.length_drop]; omega
            have HTL2 : Hid (((srtP ps j).take k ++ [((pi ps j).1, (pi ps j).2)]).length ≤ 1048576) := by show _ ≤ _; rw [List.length_append, List.length_singleton]; have := List.length_take_le' k (srtP ps j); omega
            have HOL := Lib.hid (own_litQ (base := wq.heap.size) wq wq.heap.size rfl (Nat.le_refl _) 49)
            have BQ : Below w.heap.size w wq := HB.out.trans (HBW.out.mono hsz)
            have HBQ := Lib.hid BQ
            have szq := BQ.size
            have i4 : (k : Int) ≤ (c : Int) := by omega
            have i5 : (k : Int) ≤ (j : Int) := by omega
            have i6 : (0 : Int) ≤ (k : Int) := by omega
            have i8 : (j : Int) ≤ (c : Int) := by omega
            have i9 : k ≤ c := by omega
            have i10 : k ≤ j := by omega
            clear hkl hjl BQ hE
            by_cases hck : k = c
            · have HS3' := Lib.hid (HS3.out hck.symm)
              subst hck
              clear HS2 HS3
              go_wp2_with (first
                | (at_builtin; refine wpList_appP (by first | rfl | (simp [Region.wanted, yielded]; done)) _ _ rfl wq.heap.size _ [] rfl HOL.out _ rfl _ (HS1.out (wq.alloc (.cells #[] 49)) (by go_grown)) ((srtP ps j).take k) (List.nil_append _) (by decide) (by first | exact HTL.out) (by simp) ?_; intro v6 w6 ho6 hb6 hg6; have HO6 := Lib.hid ho6; have HB6 : Hid (Below wq.heap.size wq w6) := (Below.trans (by go_grown) hb6); obtain ⟨a0, a1, az⟩ := HCL.out w6 (HBQ.out.trans (HB6.out.mono szq)); clear ho6 hb6 hg6 HOL)
                | (at_builtin; refine wpList_appPin rfl _ _ rfl wq.heap.size _ ((srtP ps j).take k) rfl HO6.out (pi ps j).1 (pi ps j).2 w6.heap.size rfl rfl (by have := HTL.out; omega) HB6.out.size ?_; intro v7 w7 ho7 hb7 hg7; have HO7 := Lib.hid ho7; have HB7 : Hid (Below wq.heap.size wq w7) := (HB6.out.trans hb7); clear ho7 hb7 hg7 HO6 a0 a1 az)
                | (at_builtin; refine wpList_appP (by first | rfl | (simp [Region.wanted, yielded]; done)) _ _ rfl wq.heap.size _ _ rfl HO7.out _ rfl _ (HS3'.out w7) (srtP ps (j + 1)) HE.out (by first | exact HTL2.out) (by first | exact HDL.out) HB7.out.size ?_; intro v8 w8 ho8 hb8 hg8; have HO8 := Lib.hid ho8; have HB8 : Hid (Below wq.heap.size wq w8) := (HB7.out.trans hb8); clear ho8 hb8 hg8 HO7))
              obtain ⟨g8, c8, e8, h8⟩ := HO8.out.form (by rw [srtP_length]; omega)
              have e9 : v8 = .slice (some ⟨g8, 0, none⟩) (j + 1) c8 := by rw [e8, srtP_length]
              have HO9 : Hid (w8.ownsRow w.heap.size 49 2 (.slice (some ⟨g8, 0, none⟩) (j + 1) c8) (srtP ps (j + 1)).length (P64 (srtP ps (j + 1)))) := by have h := HO8.out; rw [e9] at h; exact own_mono h szq
              have H9 : Hid (j + 1 ≤ c8) := by show _ ≤ _; have := own_cap HO9.out; rwa [srtP_length] at this
              clear h8 e8
              subst e9
              go_roundw
              case rel => exact ⟨j + 1, g8, c8, by omega, by go_num, rfl, H9.out, HO9.out, HBQ.out.trans (HB8.out.mono szq)⟩
              case measure => simp [intOf]; omega
            · clear HS3
              go_wp2_with (first
                | (at_builtin; refine wpList_appP (by first | rfl | (simp [Region.wanted, yielded]; done)) _ _ rfl wq.heap.size _ [] rfl HOL.out _ rfl _ (HS1.out (wq.alloc (.cells #[] 49)) (by go_grown)) ((srtP ps j).take k) (List.nil_append _) (by decide) (by first | exact HTL.out) (by simp) ?_; intro v6 w6 ho6 hb6 hg6; have HO6 := Lib.hid ho6; have HB6 : Hid (Below wq.heap.size wq w6) := (Below.trans (by go_grown) hb6); obtain ⟨a0, a1, az⟩ := HCL.out w6 (HBQ.out.trans (HB6.out.mono szq)); clear ho6 hb6 hg6 HOL)
                | (at_builtin; refine wpList_appPin rfl _ _ rfl wq.heap.size _ ((srtP ps j).take k) rfl HO6.out (pi ps j).1 (pi ps j).2 w6.heap.size rfl rfl (by have := HTL.out; omega) HB6.out.size ?_; intro v7 w7 ho7 hb7 hg7; have HO7 := Lib.hid ho7; have HB7 : Hid (Below wq.heap.size wq w7) := (HB6.out.trans hb7); clear ho7 hb7 hg7 HO6 a0 a1 az)
                | (at_builtin; refine wpList_appP (by first | rfl | (simp [Region.wanted, yielded]; done)) _ _ rfl wq.heap.size _ _ rfl HO7.out _ rfl _ (HS2.out w7 HB7.out) (srtP ps (j + 1)) HE.out (by first | exact HTL2.out) (by first | exact HDL.out) HB7.out.size ?_; intro v8 w8 ho8 hb8 hg8; have HO8 := Lib.hid ho8; have HB8 : Hid (Below wq.heap.size wq w8) := (HB7.out.trans hb8); clear ho8 hb8 hg8 HO7))
              obtain ⟨g8, c8, e8, h8⟩ := HO8.out.form (by rw [srtP_length]; omega)
              have e9 : v8 = .slice (some ⟨g8, 0, none⟩) (j + 1) c8 := by rw [e8, srtP_length]
              have HO9 : Hid (w8.ownsRow w.heap.size 49 2 (.slice (some ⟨g8, 0, none⟩) (j + 1) c8) (srtP ps (j + 1)).length (P64 (srtP ps (j + 1)))) := by have h := HO8.out; rw [e9] at h; exact own_mono h szq
              have H9 : Hid (j + 1 ≤ c8) := by show _ ≤ _; have := own_cap HO9.out; rwa [srtP_length] at this
              clear h8 e8
              subst e9
              go_roundw
              case rel => exact ⟨j + 1, g8, c8, by omega, by go_num, rfl, H9.out, HO9.out, HBQ.out.trans (HB8.out.mono szq)⟩
              case measure => simp [intOf]; omega
          | true =>
            have HPL : Hid (plc (pi ps j) (srtP ps j) j = plc (pi ps j) (srtP ps j) (k - 1)) := by
              show _ = _
              rw [HPL.out]
              obtain ⟨q, rfl⟩ : ∃ q, k = q + 1 := ⟨k - 1, by omega⟩
              rw [plc, if_pos (by exact h6)]; rfl
            have H6 := Lib.hid h6
            clear h6 hkk hoi
            go_wp2_with fail
            refine wp_region_grow (by kernel_rfl) (by kernel_rfl) ?_
            repeat (go_big_quiet_step ((go_at_call 49; first | with_reducible exact grow_of (l22Before_r (pi ps j) (pi (srtP ps j) (k - 1)) _ _ H6.out))))
            refine wpQuiet_nil ?_
            intro wq hbq
            have HBW : Hid (Below wo.heap.size wo wq) := HBI.out.trans (hbq.mono HBI.out.size)
            clear hbq HBI HOI z1 z2 a0 a1 az
            go_wp2_with fail
            go_roundw
            case rel => exact ⟨k - 1, by omega, by go_num, HPL.out, HBW.out⟩
            case measure => simp [intOf]; omega
    · obtain rfl : j = ps.length := by omega
      go_wp2
      go_ret
      exact ⟨_, rfl, HO.out, HB.out⟩
end Go.Proofs.YtgaohmbgjjhdbaaGreatDoor
