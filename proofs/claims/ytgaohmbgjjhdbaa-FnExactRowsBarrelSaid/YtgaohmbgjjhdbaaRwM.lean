/- Lists of lists of numbers: whether two are alike (eqInt64SS), and what markInt64SS writes. -/
import Derived.Test.YtgaohmbgjjhdbaaRwR
namespace Go.Proofs.Ytgaohmbgjjhdbaa
open Go.RowKit
attribute [local go_sem ↓] Go.wp_at_zero Go.wp_at_succ
attribute [local go_sem] cell?_grow frozen?_grow

set_option maxHeartbeats 4000000 in
theorem eqRows_b (va vb : Value) (R : List (List Int)) (w : World) (ha : RdR w va R) (hb : RdR w vb R) :
    Calls Try.prog 13 #[va, vb] w fun e w' => e = .returned (.bool true) ∧ Below w.heap.size w w' := by
  have HA := Lib.hid ha
  have HB := Lib.hid hb
  obtain ⟨A, c, rfl, hac, hac'⟩ := ha.form
  obtain ⟨B, d, rfl, hbd, hbd'⟩ := hb.form
  clear ha hb
  go_enter Try.func13, Try.ntmps13
  go_wp2_with fail
  go_loopw [5] (fun i wr => ∃ j : Nat, j ≤ R.length ∧ i = .int .i64 j ∧ Below w.heap.size w wr) (fun i _ => R.length - (intOf i).toNat)
  case atStart => exact ⟨0, Nat.zero_le _, rfl, Below.refl _ _⟩
  case round =>
    obtain ⟨j, hj, rfl, hBl⟩ := hrel
    by_cases hlt : j < R.length
    · obtain ⟨ga, oa, Au, cu, rfl, hga, hua, hsa⟩ := (HA.out.below hBl).at_ hlt
      obtain ⟨gb, ob, Av, cv, rfl, hgb, hub, hsb⟩ := (HB.out.below hBl).at_ hlt
      have S1 := Lib.hid hsa
      have S2 := Lib.hid hsb
      have i1 : (j : Int) < (R.length : Int) := by omega
      clear hsa hsb
      go_wp2_with fail
      refine wp_region_grow (by kernel_rfl) (by kernel_rfl) ?_
      repeat (go_big_quiet_step (((go_at_call 45; exact grow_of (eqInt64S_b _ _ (rx R j) _ (Sl.grow S1.out _) (Sl.grow S2.out _))))))
      refine wpQuiet_nil ?_
      intro w6 hb6
      have B6 : Below w.heap.size w w6 := hBl.trans (hb6.mono hBl.size)
      clear hb6
      go_wp2
      go_roundw
      case rel => exact ⟨j + 1, by omega, by go_num, B6⟩
      case measure => simp [intOf]; omega
    · obtain rfl : j = R.length := by omega
      go_wp2
      go_ret
      exact ⟨rfl, hBl⟩

/-- w' is as w is, but for blocks from lo up to hi, and new ones. -/
def Mid (lo hi : Nat) (w w' : World) : Prop := w'.os = w.os ∧ w'.tape = w.tape ∧ w'.output = w.output ∧ w.heap.size ≤ w'.heap.size ∧ ∀ k, k < w.heap.size → (k < lo ∨ hi ≤ k) → w'.heap[k]? = w.heap[k]?
section
variable {lo hi : Nat} {w w' w'' : World}
theorem Mid.refl (lo hi : Nat) (w : World) : Mid lo hi w w := ⟨rfl, rfl, rfl, Nat.le_refl _, fun _ _ _ => rfl⟩
theorem Mid.trans (h : Mid lo hi w w') (k : Mid lo hi w' w'') : Mid lo hi w w'' :=
  ⟨k.1.trans h.1, k.2.1.trans h.2.1, k.2.2.1.trans h.2.2.1, Nat.le_trans h.2.2.2.1 k.2.2.2.1, fun i hi hn => (k.2.2.2.2 i (Nat.lt_of_lt_of_le hi h.2.2.2.1) hn).trans (h.2.2.2.2 i hi hn)⟩
theorem Mid.of_grown {row : Option Nat} (hg : w.grownBy w' row) (hr : ∀ b, row = some b → lo ≤ b ∧ b < hi) : Mid lo hi w w' :=
  ⟨hg.os, hg.tape, hg.output, hg.size, fun k hk hn => hg.block k hk fun e => by have := hr k e.symm; omega⟩
theorem Mid.size (h : Mid lo hi w w') : w.heap.size ≤ w'.heap.size := h.2.2.2.1
theorem Mid.below (h : Mid lo hi w w') (hl : lo ≤ w.heap.size) : Below lo w w' := ⟨h.1, h.2.1, h.2.2.1, h.2.2.2.1, fun k hk => h.2.2.2.2 k (by omega) (Or.inl hk)⟩
theorem Mid.block (h : Mid lo hi w w') {k : Nat} (hk : k < w.heap.size) (hn : k < lo ∨ hi ≤ k) : w'.heap[k]? = w.heap[k]? := h.2.2.2.2 k hk hn
theorem Mid.cell (h : Mid lo hi w w') {b o : Nat} {u : Value} (hc : w.cell? ⟨b, o, none⟩ = some u) (hb : b < w.heap.size) (hn : b < lo ∨ hi ≤ b) : w'.cell? ⟨b, o, none⟩ = some u := (World.cell?_of_block (a := ⟨b, o, none⟩) (h.block hb hn)).trans hc
theorem Mid.own (h : Mid lo hi w w') {base n : Nat} {e : TypeId} {size : Nat} {v : Value} {xs : List Value} (ho : w.ownsRow base e size v n xs) (hn : ∀ b, v.ownBlock = some b → b < lo ∨ hi ≤ b) : w'.ownsRow base e size v n xs := by
  refine ⟨ho.1, ?_⟩
  rcases ho.2 with h2 | ⟨g, cap, cur, hv, hg, hh, r⟩
  · exact .inl h2
  · have hlt : g < w.heap.size := (Array.getElem?_eq_some_iff.1 hh).1
    exact .inr ⟨g, cap, cur, hv, hg, (h.block hlt (hn g (by rw [hv]; rfl))).trans hh, r⟩
end

/-- As RowsAt, and all of it lies below hi. -/
def RowsIn (w : World) (base hi : Nat) (v : Value) (m : Nat) (L : Nat → List Int) : Prop :=
  ∃ vs : List Value, w.ownsRow base 60 1 v m vs ∧
    (∀ i, i < m → ∃ u : Value, vs[i]? = some u ∧ w.ownsRow base 2 1 u (L i).length (I64 (L i)) ∧ Ap u v ∧ ∀ b, u.ownBlock = some b → b < hi) ∧
    ∀ (i j : Nat) (u u' : Value), i ≠ j → vs[i]? = some u → vs[j]? = some u' → Ap u u'
section
variable {w w' : World} {base hi m : Nat} {v u : Value} {L L' : Nat → List Int}
theorem RowsIn.of (h : RowsAt w base v m L) : RowsIn w base w.heap.size v m L := by
  obtain ⟨vs, ho, hu, hd⟩ := h
  exact ⟨vs, ho, fun i hi => let ⟨u, h1, h2, h3⟩ := hu i hi; ⟨u, h1, h2, h3, fun b hb => (h2.lt b hb).2⟩, hd⟩
theorem RowsIn.below (h : RowsIn w base hi v m L) (hb : Below w.heap.size w w') : RowsIn w' base hi v m L := by
  obtain ⟨vs, ho, hu, hd⟩ := h
  exact ⟨vs, own_below ho hb, fun i hi => let ⟨u, h1, h2, h3⟩ := hu i hi; ⟨u, h1, own_below h2 hb, h3⟩, hd⟩
theorem RowsIn.rows (h : RowsIn w base hi v m L) : RowsAt w base v m L := by
  obtain ⟨vs, ho, hu, hd⟩ := h
  exact ⟨vs, ho, fun i hi => let ⟨u, h1, h2, h3, _⟩ := hu i hi; ⟨u, h1, h2, h3⟩, hd⟩
theorem RowsIn.at_ {A : Option Addr} {c : Nat} (h : RowsIn w base hi (.slice A m c) m L) {i : Nat} (hi' : i < m) : ∃ (g : Nat) (Au : Option Addr) (cu : Nat), A = some ⟨g, 0, none⟩ ∧ m ≤ c ∧ g < w.heap.size ∧ w.cell? ⟨g, i, none⟩ = some (.slice Au (L i).length cu) ∧ w.ownsRow base 2 1 (.slice Au (L i).length cu) (L i).length (I64 (L i)) ∧
    (∀ b, (Value.slice Au (L i).length cu).ownBlock = some b → b < hi) := by
  obtain ⟨vs, ho, hu, _⟩ := h
  obtain ⟨u, h1, h2, h3, h4⟩ := hu i hi'
  obtain ⟨A', c', e, h5, _⟩ := SlC.of_own ho
  injection e with _ _ e3
  obtain ⟨g, c2, e', _⟩ := ho.form (by omega)
  injection e' with e4 _ _
  subst e4
  obtain ⟨Au, cu, rfl⟩ := own_form h2
  exact ⟨g, Au, cu, rfl, by omega, (ho.lt g rfl).2, (ho.cellAt i (by omega)).trans h1, h2, h4⟩
theorem RowsIn.turn {A : Option Addr} {c : Nat} (h : RowsIn w base hi (.slice A m c) m L) {i g : Nat} (hi' : i < m) (hA : A = some ⟨g, 0, none⟩) (hu : w.cell? ⟨g, i, none⟩ = some u) (hg : w.grownBy w' u.ownBlock)
    (ho' : w'.ownsRow base 2 1 u (L' i).length (I64 (L' i))) (hL : ∀ j, j ≠ i → L' j = L j) : RowsIn w' base hi (.slice A m c) m L' := by
  subst hA
  obtain ⟨vs, ho, hv, hd⟩ := h
  obtain ⟨u0, h1, h2, h3, h4⟩ := hv i hi'
  have hc := ho.cellAt i (by omega)
  have hu0 : u0 = u := by rw [hc, h1] at hu; exact Option.some.inj hu
  subst hu0
  refine ⟨vs, ho.kept hg h3.symm.or, fun j hj => ?_, hd⟩
  by_cases hji : j = i
  · subst hji; exact ⟨u0, h1, ho', h3, h4⟩
  · obtain ⟨x, k1, k2, k3, k4⟩ := hv j hj
    refine ⟨x, k1, ?_, k3, k4⟩
    rw [hL j hji]
    exact k2.kept hg (hd j i x u0 hji k1 h1).or
end

/-- The first j lists written over. -/
def mkR (R : List (List Int)) (k : Int) (j i : Nat) : List Int := if i < j then runUp (k + (sumTo R i : Int)) (rx R i).length else rx R i
set_option maxHeartbeats 4000000 in
theorem markRows_any (v : Value) (k : Int) (R : List (List Int)) (base hi : Nat) (w : World) (h : RowsIn w base hi v R.length (rx R)) (h0 : 0 ≤ k) (hk : k ≤ 1000000) (hm : sumTo R R.length ≤ 1048576) (hR : R.length ≤ 1048576) :
    Calls Try.prog 23 #[v, .int .i64 k] w fun e w' => e = .returned (.int .i64 (k + (sumTo R R.length : Int))) ∧ Mid base hi w w' := by
  have HH := Lib.hid h
  obtain ⟨A, c, rfl, hmc⟩ := h.rows.form
  have HM : Hid (∀ j, j < R.length → sumTo R j ≤ 1048576 ∧ (rx R j).length ≤ 1048576) := fun j hj => ⟨Nat.le_trans (sumTo_mono R (by omega)) hm, Nat.le_trans (row_le hj) hm⟩
  clear h
  go_enter Try.func23, Try.ntmps23
  go_wp2_with fail
  go_loopw [1, 5] (fun q i wr => ∃ j : Nat, j ≤ R.length ∧ i = .int .i64 j ∧ q = .int .i64 (k + (sumTo R j : Int)) ∧ RowsIn wr base hi (.slice A R.length c) R.length (mkR R k j) ∧ Mid base hi w wr) (fun _ i _ => R.length - (intOf i).toNat)
  case atStart => exact ⟨0, Nat.zero_le _, rfl, by simp [sumTo], by
    have e : mkR R k 0 = rx R := by funext i; simp [mkR]
    rw [e]; exact HH.out, Mid.refl _ _ _⟩
  case round =>
    obtain ⟨j, hj, rfl, rfl, hR, hB⟩ := hrel
    have HR := Lib.hid hR
    by_cases hlt : j < R.length
    · obtain ⟨g, Au, cu, hA, hmc', hg, hu, ho, hbb⟩ := hR.at_ hlt
      have e0 : mkR R k j j = rx R j := by simp [mkR]
      rw [e0] at hu ho hbb
      subst hA
      have HO := Lib.hid ho
      have HU := Lib.hid hu
      have HBB := Lib.hid hbb
      obtain ⟨hm1, hm2⟩ := HM.out j hlt
      have i1 : (j : Int) < (R.length : Int) := by omega
      clear ho hR hbb e0
      go_wp2_with fail
      refine (markInt64S_any _ (k + (sumTo R j : Int)) (rx R j) base _ (by first | exact HO.out) (by omega) (by omega) (by omega)).mono ?_
      rintro e w1 ⟨rfl, ho1, hg1⟩
      have hT : RowsIn w1 base hi (.slice (some ⟨g, 0, none⟩) R.length c) R.length (mkR R k (j + 1)) := by
        refine HR.out.turn hlt rfl HU.out hg1 ?_ (fun i hi => ?_)
        · have e : mkR R k (j + 1) j = runUp (k + (sumTo R j : Int)) (rx R j).length := by simp [mkR]
          rw [e]; exact ho1
        · simp only [mkR]
          by_cases h1 : i < j
          · rw [if_pos h1, if_pos (by omega)]
          · rw [if_neg h1, if_neg (by omega)]
      have HT := Lib.hid hT
      have HB1 : Hid (Mid base hi w w1) := hB.trans (Mid.of_grown hg1 (fun b hb => ⟨(HO.out.lt b hb).1, HBB.out b hb⟩))
      have eq2 : Hid (k + (sumTo R j : Int) + ((rx R j).length : Int) = k + (sumTo R (j + 1) : Int)) := by
        show _ = _
        have : sumTo R (j + 1) = sumTo R j + (rx R j).length := rfl
        omega
      clear ho1 hg1 hT
      go_wp2_with fail
      go_roundw
      case rel => exact ⟨j + 1, by omega, by go_num, by rw [← eq2.out], HT.out, HB1.out⟩
      case measure => simp [intOf]; omega
    · obtain rfl : j = R.length := by omega
      have HB1 := Lib.hid hB
      go_wp2
      go_ret
      exact ⟨rfl, HB1.out⟩
end Go.Proofs.Ytgaohmbgjjhdbaa
