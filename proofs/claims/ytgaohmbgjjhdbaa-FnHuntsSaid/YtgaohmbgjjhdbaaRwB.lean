/- Lists of lists of numbers that a call owns: words, and contracts of the helpers eqInt64SS, markInt64SS, heldInt64SS. -/
import Derived.Test.YtgaohmbgjjhdbaaChB
namespace Go.Proofs.Ytgaohmbgjjhdbaa
open Go.RowKit
attribute [local go_sem ↓] Go.wp_at_zero Go.wp_at_succ
attribute [local go_sem] cell?_grow frozen?_grow

/-- v reads as m lists, the i-th of which is L i; all is the call's own, and no two share memory. -/
def RowsAt (w : World) (base : Nat) (v : Value) (m : Nat) (L : Nat → List Int) : Prop :=
  ∃ vs : List Value, w.ownsRow base 60 1 v m vs ∧
    (∀ i, i < m → ∃ u : Value, vs[i]? = some u ∧ w.ownsRow base 2 1 u (L i).length (I64 (L i)) ∧ Ap u v) ∧
    ∀ (i j : Nat) (u u' : Value), i ≠ j → vs[i]? = some u → vs[j]? = some u' → Ap u u'
section
variable {w w' w0 : World} {base m : Nat} {v v' u : Value} {L L' : Nat → List Int}
theorem RowsAt.below (h : RowsAt w base v m L) (hb : Below w.heap.size w w') : RowsAt w' base v m L := by
  obtain ⟨vs, ho, hu, hd⟩ := h
  exact ⟨vs, own_below ho hb, fun i hi => let ⟨u, h1, h2, h3⟩ := hu i hi; ⟨u, h1, own_below h2 hb, h3⟩, hd⟩
theorem RowsAt.mono (h : RowsAt w base v m L) {b' : Nat} (hb : b' ≤ base) : RowsAt w b' v m L := by
  obtain ⟨vs, ho, hu, hd⟩ := h
  exact ⟨vs, own_mono ho hb, fun i hi => let ⟨u, h1, h2, h3⟩ := hu i hi; ⟨u, h1, own_mono h2 hb, h3⟩, hd⟩
/-- What lies below B stands while the world goes on above B. -/
theorem RowsAt.belowB {B : Nat} (h : RowsAt w0 base v m L) (hB : w0.heap.size ≤ B) (hb0 : Below w0.heap.size w0 w) (hb : Below B w w') : RowsAt w' base v m L :=
  h.below (hb0.trans (hb.mono hB))
theorem RowsAt.form (h : RowsAt w base v m L) : ∃ A c, v = .slice A m c ∧ m ≤ c := by
  obtain ⟨vs, ho, _⟩ := h
  obtain ⟨A, c, e, h1, _⟩ := SlC.of_own ho
  exact ⟨A, c, e, h1⟩
theorem RowsAt.at_ (h : RowsAt w base v m L) {i : Nat} (hi : i < m) : ∃ (g c : Nat) (u : Value), v = .slice (some ⟨g, 0, none⟩) m c ∧ m ≤ c ∧ g < w.heap.size ∧ w.cell? ⟨g, i, none⟩ = some u ∧ w.ownsRow base 2 1 u (L i).length (I64 (L i)) ∧ Ap u v := by
  obtain ⟨vs, ho, hu, _⟩ := h
  obtain ⟨u, h1, h2, h3⟩ := hu i hi
  obtain ⟨A, c, e, h4, _⟩ := SlC.of_own ho
  obtain ⟨g, c', e', _⟩ := ho.form (by omega)
  subst e'
  injection e with e1 e2 e3
  subst e3
  exact ⟨g, _, u, rfl, h4, (ho.lt g rfl).2, (ho.cellAt i (by omega)).trans h1, h2, h3⟩
/-- A row's numbers have turned. -/
theorem RowsAt.turn (h : RowsAt w base v m L) {i g c : Nat} (hi : i < m) (hv : v = .slice (some ⟨g, 0, none⟩) m c) (hu : w.cell? ⟨g, i, none⟩ = some u) (hg : w.grownBy w' u.ownBlock)
    (ho' : w'.ownsRow base 2 1 u (L' i).length (I64 (L' i))) (hL : ∀ j, j ≠ i → L' j = L j) : RowsAt w' base v m L' := by
  subst hv
  obtain ⟨vs, ho, hv, hd⟩ := h
  obtain ⟨u0, h1, h2, h3⟩ := hv i hi
  have hc := ho.cellAt i (by omega)
  have hu0 : u0 = u := by rw [hc, h1] at hu; exact Option.some.inj hu
  subst hu0
  refine ⟨vs, ho.kept hg h3.symm.or, fun j hj => ?_, hd⟩
  by_cases hji : j = i
  · subst hji; exact ⟨u0, h1, ho', h3⟩
  · obtain ⟨x, k1, k2, k3⟩ := hv j hj
    refine ⟨x, k1, ?_, k3⟩
    rw [hL j hji]
    exact k2.kept hg (hd j i x u0 hji k1 h1).or
/-- A new row is put behind. -/
theorem rows_push {vs : List Value} (ho : w0.ownsRow base 60 1 v m vs) (hv : ∀ i, i < m → ∃ u : Value, vs[i]? = some u ∧ w0.ownsRow base 2 1 u (L i).length (I64 (L i)) ∧ Ap u v)
    (hd : ∀ (i j : Nat) (u u' : Value), i ≠ j → vs[i]? = some u → vs[j]? = some u' → Ap u u') (hb : Below w0.heap.size w0 w) (hu : w.ownsRow base 2 1 u (L m).length (I64 (L m))) (hf : ∀ b, u.ownBlock = some b → w0.heap.size ≤ b)
    (ho' : w'.ownsRow base 60 1 v' (m + 1) (vs ++ [u])) (hg : w.grownBy w' v.ownBlock) (hn : v'.ownBlock = v.ownBlock ∨ v'.ownBlock = some (w.heap.size + 1)) : RowsAt w' base v' (m + 1) L := by
  have hz := hb.size
  have huv : Ap u v := fun b h1 h2 => by have := hf b h1; have := (ho.lt b h2).2; omega
  have hvl : vs.length = m := by have := ho.1; omega
  refine ⟨vs ++ [u], ho', fun i hi => ?_, fun i j x y hij hx hy => ?_⟩
  · by_cases him : i < m
    · obtain ⟨x, k1, k2, k3⟩ := hv i him
      refine ⟨x, by rw [List.getElem?_append_left (by omega)]; exact k1, (own_below k2 hb).kept hg k3.or, fun b h1 h2 => ?_⟩
      rcases hn with h | h
      · exact k3 b h1 (by rw [← h]; exact h2)
      · rw [h] at h2
        have := (k2.lt b h1).2
        have := Option.some.inj h2
        omega
    · obtain rfl : i = m := by omega
      refine ⟨u, by rw [List.getElem?_append_right (by omega), hvl, Nat.sub_self]; rfl, hu.kept hg huv.or, fun b h1 h2 => ?_⟩
      rcases hn with h | h
      · exact huv b h1 (by rw [← h]; exact h2)
      · rw [h] at h2
        have := (hu.lt b h1).2
        have := Option.some.inj h2
        omega
  · have hi : i < m + 1 := by have := (List.getElem?_eq_some_iff.1 hx).1; simp at this; omega
    have hj : j < m + 1 := by have := (List.getElem?_eq_some_iff.1 hy).1; simp at this; omega
    have old : ∀ k z, k < m → (vs ++ [u])[k]? = some z → vs[k]? = some z ∧ ∀ b, z.ownBlock = some b → b < w0.heap.size := fun k z hk hz => by
      rw [List.getElem?_append_left (by omega)] at hz
      obtain ⟨z0, k1, k2, _⟩ := hv k hk
      rw [k1] at hz
      obtain rfl := Option.some.inj hz
      exact ⟨k1, fun b hb => (k2.lt b hb).2⟩
    have new : ∀ z, (vs ++ [u])[m]? = some z → z = u := fun z hz => by
      rw [List.getElem?_append_right (by omega), hvl, Nat.sub_self] at hz
      exact (Option.some.inj hz).symm
    by_cases h1 : i < m
    · obtain ⟨a1, a2⟩ := old i x h1 hx
      by_cases h2 : j < m
      · exact hd i j x y hij a1 (old j y h2 hy).1
      · obtain rfl : j = m := by omega
        obtain rfl := new y hy
        exact fun b h3 h4 => by have := a2 b h3; have := hf b h4; omega
    · obtain rfl : i = m := by omega
      obtain rfl := new x hx
      obtain ⟨_, a2⟩ := old j y (by omega) hy
      exact fun b h3 h4 => by have := hf b h3; have := a2 b h4; omega
end

set_option maxHeartbeats 4000000 in
theorem markInt64SS_any (v : Value) (k n m : Nat) (L : Nat → List Int) (base : Nat) (w : World) (h : RowsAt w base v m L) (hl : ∀ i, i < m → (L i).length = n) (hk : k ≤ 1000000) (hm : m ≤ 1000) (hn : n ≤ 1000) (hbw : base ≤ w.heap.size) :
    Calls Try.prog 23 #[v, .int .i64 k] w fun e w' => e = .returned (.int .i64 ((k + m * n : Nat) : Int)) ∧ RowsAt w' base v m (fun i => runUp ((k + i * n : Nat) : Int) n) ∧ Below base w w' := by
  have HH := Lib.hid h
  have HL := Lib.hid hl
  obtain ⟨A, c, rfl, hmc⟩ := h.form
  clear h hl
  go_enter Try.func23, Try.ntmps23
  go_wp2_with fail
  go_loopw [1, 5] (fun q i wr => ∃ j : Nat, j ≤ m ∧ i = .int .i64 j ∧ q = .int .i64 ((k + j * n : Nat) : Int) ∧ RowsAt wr base (.slice A m c) m (fun i => if i < j then runUp ((k + i * n : Nat) : Int) n else L i) ∧ Below base w wr) (fun _ i _ => m - (intOf i).toNat)
  case atStart => exact ⟨0, Nat.zero_le _, rfl, by simp, by simpa using HH.out, Below.refl _ _⟩
  case round =>
    obtain ⟨j, hj, rfl, rfl, hR, hB⟩ := hrel
    have HR := Lib.hid hR
    by_cases hlt : j < m
    · obtain ⟨g, c', u, hv, hmc', hg, hu, ho, hap⟩ := hR.at_ hlt
      injection hv with e1 e2 e3
      subst e1 e3
      rw [if_neg (Nat.lt_irrefl j)] at ho
      have HO := Lib.hid ho
      have HU := Lib.hid hu
      have hln := HL.out j hlt
      have hjn : j * n ≤ 1000 * 1000 := Nat.mul_le_mul (by omega) (by omega)
      have i1 : (j : Int) < (m : Int) := by omega
      have hLN := Lib.hid hln
      obtain ⟨Au, cu, rfl⟩ := own_form ho
      clear ho hap hR hln
      have hq : ((k + j * n : Nat) : Int) = (k : Int) + (j : Int) * (n : Int) := by simp
      go_wp2_with fail
      refine (markInt64S_any _ ((k + j * n : Nat) : Int) (L j) base _ (by first | exact HO.out) (by omega) (by omega) (by have := hLN.out; omega)).mono ?_
      rintro e w1 ⟨rfl, ho1, hg1⟩
      have eR : runUp ((k + j * n : Nat) : Int) (L j).length = runUp ((k + j * n : Nat) : Int) n := by rw [hLN.out]
      have eL : ((L j).length : Int) = (n : Int) := by rw [hLN.out]
      rw [eR] at ho1
      have hT : RowsAt w1 base (.slice (some ⟨g, 0, none⟩) m c) m (fun i => if i < j + 1 then runUp ((k + i * n : Nat) : Int) n else L i) := by
        refine HR.out.turn hlt rfl HU.out hg1 ?_ (fun i hi => ?_)
        · show World.ownsRow _ _ _ _ _ (if j < j + 1 then runUp ((k + j * n : Nat) : Int) n else L j).length (I64 (if j < j + 1 then runUp ((k + j * n : Nat) : Int) n else L j))
          rw [if_pos (Nat.lt_succ_self j)]; exact ho1
        · show (if i < j + 1 then runUp ((k + i * n : Nat) : Int) n else L i) = (if i < j then runUp ((k + i * n : Nat) : Int) n else L i)
          by_cases h1 : i < j
          · rw [if_pos h1, if_pos (by omega)]
          · rw [if_neg h1, if_neg (by omega)]
      have HT := Lib.hid hT
      have HB1 : Hid (Below base w w1) := hB.trans (below_of_grown hg1 (Nat.le_trans hbw hB.size) (fun b hb => (HO.out.lt b hb).1))
      have eq2 : ((k + j * n : Nat) : Int) + (n : Int) = ((k + (j + 1) * n : Nat) : Int) := by rw [Nat.add_mul]; omega
      clear ho1 hg1 hT eR
      go_wp2_with fail
      go_roundw
      case rel => exact ⟨j + 1, by omega, by go_num, by rw [← eq2, hq], HT.out, HB1.out⟩
      case measure => simp [intOf]; omega
    · obtain rfl : j = m := by omega
      have HB1 := Lib.hid hB
      have hT : RowsAt wr base (.slice A j c) j (fun i => runUp ((k + i * n : Nat) : Int) n) := by
        obtain ⟨vs, ho, hu, hd⟩ := HR.out
        refine ⟨vs, ho, fun i hi => ?_, hd⟩
        obtain ⟨u, h1, h2, h3⟩ := hu i hi
        simp only [if_pos hi] at h2
        exact ⟨u, h1, h2, h3⟩
      have HT := Lib.hid hT
      clear hT hR
      go_wp2
      go_ret
      exact ⟨by simp, HT.out, HB1.out⟩
set_option maxHeartbeats 4000000 in
theorem eqInt64SS_b (va vb : Value) (m : Nat) (L : Nat → List Int) (ba bb : Nat) (w : World) (ha : RowsAt w ba va m L) (hb : RowsAt w bb vb m L) (hm : m ≤ 1000) :
    Calls Try.prog 13 #[va, vb] w fun e w' => e = .returned (.bool true) ∧ Below w.heap.size w w' := by
  have HA := Lib.hid ha
  have HB := Lib.hid hb
  obtain ⟨A, c, rfl, hac⟩ := ha.form
  obtain ⟨B, d, rfl, hbd⟩ := hb.form
  clear ha hb
  go_enter Try.func13, Try.ntmps13
  go_wp2_with fail
  go_loopw [5] (fun i wr => ∃ j : Nat, j ≤ m ∧ i = .int .i64 j ∧ Below w.heap.size w wr) (fun i _ => m - (intOf i).toNat)
  case atStart => exact ⟨0, Nat.zero_le _, rfl, Below.refl _ _⟩
  case round =>
    obtain ⟨j, hj, rfl, hBl⟩ := hrel
    by_cases hlt : j < m
    · obtain ⟨g, c', u, hv, hmc', hg, hu, ho, _⟩ := (HA.out.below hBl).at_ hlt
      injection hv with e1 e2 e3
      subst e1 e3
      obtain ⟨g2, c2, u2, hv2, hmc2, hg2, hu2, ho2, _⟩ := (HB.out.below hBl).at_ hlt
      injection hv2 with e1 e2 e3
      subst e1 e3
      have S1 := Lib.hid (Sl.of_own ho)
      have S2 := Lib.hid (Sl.of_own ho2)
      obtain ⟨Au, cu, rfl⟩ := own_form ho
      obtain ⟨Au2, cu2, rfl⟩ := own_form ho2
      have i1 : (j : Int) < (m : Int) := by omega
      clear ho ho2
      go_wp2_with fail
      refine wp_region_grow (by kernel_rfl) (by kernel_rfl) ?_
      repeat (go_big_quiet_step (((go_at_call 45; exact grow_of (eqInt64S_b _ _ (L j) _ (Sl.grow S1.out _) (Sl.grow S2.out _))))))
      refine wpQuiet_nil ?_
      intro w6 hb6
      have B6 : Below w.heap.size w w6 := hBl.trans (hb6.mono hBl.size)
      clear hb6
      go_wp2
      go_roundw
      case rel => exact ⟨j + 1, by omega, by go_num, B6⟩
      case measure => simp [intOf]; omega
    · obtain rfl : j = m := by omega
      go_wp2
      go_ret
      exact ⟨rfl, hBl⟩
end Go.Proofs.Ytgaohmbgjjhdbaa
