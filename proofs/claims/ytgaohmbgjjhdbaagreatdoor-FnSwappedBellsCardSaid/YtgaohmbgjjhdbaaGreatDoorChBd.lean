/- Chimes (seats without ClosestPins): the bells of all steps (bellsAt): memory of a list of lists that a call makes. -/
import Derived.Test.YtgaohmbgjjhdbaaGreatDoorChV
import Derived.Deep.RegionLaw
import Derived.OwnWalk
namespace Go.Proofs.YtgaohmbgjjhdbaaGreatDoor
open Go.RowKit
attribute [local go_sem ↓] Go.wp_at_zero Go.wp_at_succ

theorem pins_in {st bl : Int} {ps : List (Int × Int)} {n : Nat} (h : PinsTo st bl ps n) {i : Nat} (hi : i < n) : (0 ≤ (pi ps i).1 ∧ (pi ps i).1 ≤ st - 1) ∧ 0 ≤ (pi ps i).2 ∧ (pi ps i).2 ≤ bl - 1 := ⟨inB_iff.1 (h i hi).1, inB_iff.1 (h i hi).2.1⟩

/-- The bells of step s among the first k pins. -/
def bA (ps : List (Int × Int)) (s : Nat) : Nat → List Int
  | 0 => []
  | k + 1 => if (pi ps k).1 = (s : Int) then bA ps s k ++ [(pi ps k).2] else bA ps s k
theorem bA_length (ps : List (Int × Int)) (s k : Nat) : (bA ps s k).length ≤ k := by
  induction k with
  | zero => simp [bA]
  | succ k ih => rw [bA]; split <;> (try simp) <;> omega

theorem rows_info : (Tryz.prog.info? 27).map (fun i => (i.zero, i.size, i.bytes)) = some (some (.slice none 0 0), 1, 24) := by kernel_rfl

/-- Two values share no row. -/
def Ap (u u' : Value) : Prop := ∀ b, u.ownBlock = some b → u'.ownBlock ≠ some b
theorem Ap.symm {u u' : Value} (h : Ap u u') : Ap u' u := fun b h1 h2 => h b h2 h1
theorem Ap.or {u u' : Value} (h : Ap u u') : u.ownBlock = none ∨ u.ownBlock ≠ u'.ownBlock := by
  cases hu : u.ownBlock with
  | none => exact Or.inl rfl
  | some b => exact Or.inr fun e => h b hu e.symm
/-- Block g is a list of lists, the i-th of which reads as L i; all is the call's own, and no two share memory. -/
def BellsAt (w : World) (base g st c : Nat) (L : Nat → List Int) : Prop :=
  ∃ vs : List Value, w.ownsRow base 27 1 (.slice (some ⟨g, 0, none⟩) st c) st vs ∧
    (∀ i, i < st → ∃ u : Value, vs[i]? = some u ∧ w.ownsRow base 2 1 u (L i).length (I64 (L i)) ∧ u.ownBlock ≠ some g) ∧
    ∀ (i j : Nat) (u u' : Value), i ≠ j → vs[i]? = some u → vs[j]? = some u' → Ap u u'
section
variable {w w' : World} {base g st c : Nat} {L L' : Nat → List Int}
theorem BellsAt.at_ (h : BellsAt w base g st c L) {i : Nat} (hi : i < st) : ∃ u : Value, w.cell? ⟨g, i, none⟩ = some u ∧ w.ownsRow base 2 1 u (L i).length (I64 (L i)) ∧ u.ownBlock ≠ some g ∧ w.frozen? ⟨g, i, none⟩ = false ∧ g < w.heap.size ∧ st ≤ c := by
  obtain ⟨vs, ho, hu, _⟩ := h
  obtain ⟨u, h1, h2, h3⟩ := hu i hi
  have hc := ho.cellAt i (by omega)
  obtain ⟨A, c', e, h5, _⟩ := (SlC.of_own ho)
  injection e with _ _ e3
  exact ⟨u, hc.trans h1, h2, h3, ho.frozenAt i, (ho.lt g rfl).2, by omega⟩
theorem BellsAt.below (h : BellsAt w base g st c L) (hb : Below w.heap.size w w') : BellsAt w' base g st c L := by
  obtain ⟨vs, ho, hu, hd⟩ := h
  exact ⟨vs, own_below ho hb, fun i hi => let ⟨u, h1, h2, h3⟩ := hu i hi; ⟨u, h1, own_below h2 hb, h3⟩, hd⟩
/-- A row that has grown by a number is put in its place. -/
theorem BellsAt.put (h : BellsAt w base g st c L) {i : Nat} (hi : i < st) {u v' : Value} (hu : w.cell? ⟨g, i, none⟩ = some u) (hg : w.grownBy w' u.ownBlock)
    (hn : ∀ b, v'.ownBlock = some b → u.ownBlock = some b ∨ w.heap.size ≤ b) (ho' : w'.ownsRow base 2 1 v' (L' i).length (I64 (L' i))) (hL : ∀ j, j ≠ i → L' j = L j) :
    BellsAt (w'.setCell ⟨g, i, none⟩ v') base g st c L' := by
  obtain ⟨vs, ho, hv, hd⟩ := h
  have hgl := (ho.lt g rfl).2
  obtain ⟨u0, h1, h2, h3⟩ := hv i hi
  have hc := ho.cellAt i (by omega)
  have hu0 : u0 = u := by rw [hc, h1] at hu; exact Option.some.inj hu
  subst hu0
  have hv'g : v'.ownBlock ≠ some g := fun e => by
    rcases hn g e with h | h
    · exact h3 h
    · omega
  have hvl : vs.length = st := by have := ho.1; omega
  have hs := ((ho.kept hg (Or.inr fun e => h3 e.symm)).stored i v').1
  have far : ∀ x : Value, Ap x u0 → (∀ b, x.ownBlock = some b → b < w.heap.size) → Ap x v' := fun x hx hl b hb e => by
    rcases hn b e with h | h
    · exact hx b hb h
    · have := hl b hb; omega
  refine ⟨vs.set i v', hs, fun j hj => ?_, fun a b x y hab hx hy => ?_⟩
  · by_cases hji : j = i
    · subst hji
      exact ⟨v', by rw [List.getElem?_set_self (by omega)], own_far ho' (fun e => hv'g e.symm) _, hv'g⟩
    · obtain ⟨x, k1, k2, k3⟩ := hv j hj
      refine ⟨x, by rw [List.getElem?_set_ne (fun e => hji e.symm)]; exact k1, ?_, k3⟩
      rw [hL j hji]
      exact own_far (k2.kept hg (hd j i x u0 hji k1 h1).or) (fun e => k3 e.symm) _
  · by_cases hai : a = i
    · subst hai
      rw [List.getElem?_set_self (by omega)] at hx
      obtain rfl := Option.some.inj hx
      rw [List.getElem?_set_ne hab] at hy
      obtain ⟨y0, k1, k2, _⟩ := hv b (by have := (List.getElem?_eq_some_iff.1 hy).1; omega)
      obtain rfl : y0 = y := by rw [k1] at hy; exact Option.some.inj hy
      exact (far y0 (hd a b u0 y0 hab h1 k1).symm (fun j hj => (k2.lt j hj).2)).symm
    · rw [List.getElem?_set_ne (fun e => hai e.symm)] at hx
      by_cases hbi : b = i
      · subst hbi
        rw [List.getElem?_set_self (by omega)] at hy
        obtain rfl := Option.some.inj hy
        obtain ⟨x0, k1, k2, _⟩ := hv a (by have := (List.getElem?_eq_some_iff.1 hx).1; omega)
        obtain rfl : x0 = x := by rw [k1] at hx; exact Option.some.inj hx
        exact far x0 (hd a b x0 u0 hab k1 h1) (fun j hj => (k2.lt j hj).2)
      · rw [List.getElem?_set_ne (fun e => hbi e.symm)] at hy
        exact hd a b x y hab hx hy
end

section
variable {w : World} {ops : Array Oper} {o : Oper} {a : Act} {K : Act → World → Prop} {Q : Exit → Act → World → Prop} {E : Prop}
/-- 'xs = append(xs, n)' on numbers that the call owns, in a region that draws its order; where the row lies. -/
theorem step_app1h (hgd : o.guard = none) (s x : Operand) (ho : o.op = .call { callee := .builtin .append, args := #[s, x], argTypes := #[27, 27] })
    (base : Nat) (v : Value) (xs : List Int) (hs : a.eval s = v) (hown : w.ownsRow base 2 1 v xs.length (I64 xs)) (n : Int)
    (g : Nat) (hx : a.eval x = .slice (some ⟨g, 0, none⟩) 1 1) (hnew : w.heap[g]? = some (.cells #[.int .i64 n] 2 (0, 0))) (hn : xs.length ≤ 134217728) (hbase : base ≤ w.heap.size)
    (h : ∀ b c w', w'.ownsRow base 2 1 (.slice (some ⟨b, 0, none⟩) (xs.length + 1) c) (xs ++ [n]).length (I64 (xs ++ [n])) → Below base w w' → w.grownBy w' v.ownBlock → (v.ownBlock = some b ∨ b = w.heap.size) → K (a.put o.dst (.slice (some ⟨b, 0, none⟩) (xs.length + 1) c)) w') :
    if Region.wanted o (yielded ops a.tmps) = true then Oper.wp Tryz.prog o a w K Q else E := by
  obtain ⟨i0, hi, hz0, hz1, hz2⟩ := info_parts int_info
  refine step_append_lies w hgd s x _ ho base 2 i0 _ 1 8 Tryz.underlying27 hi hz0 hz1 hz2 rfl (by decide) v xs.length (I64 xs) hs hown ⟨g, 0, none⟩ 1 1 [.int .i64 n] hx rfl
    (World.news_of_block (cs := #[.int .i64 n]) (t := 2) (fr := (0, 0)) hnew) (by intro u hu; simp at hu; subst hu; rfl) (by decide) (by simp only [maxLen]; omega) (by omega) hbase w.heap.size rfl ?_
  intro b c w' h1 h2 h3 _
  exact h b c w' (by simpa [I64] using h1) (below_of_grown h2 hbase fun k hk => (hown.lt k hk).1) h2 h3
end
theorem heap_new2 (w : World) (p q : Obj) : ((w.alloc p).alloc q).heap[w.heap.size + 1]? = some q := by
  have h := heap_alloc_new (w.alloc p) q
  rw [World.size_alloc] at h
  exact h
theorem frozen_of_block {w w' : World} {b o : Nat} (h : w'.heap[b]? = w.heap[b]?) : w'.frozen? ⟨b, o, none⟩ = w.frozen? ⟨b, o, none⟩ := by simp [World.frozen?, h]
theorem bells_zero (st : Nat) (ps : List (Int × Int)) (w : World) (base g : Nat) (hown : w.ownsRow base 27 1 (.slice (some ⟨g, 0, none⟩) st st) st (List.replicate st (.slice none 0 0))) : BellsAt w base g st st (fun s => bA ps s 0) := by
  refine ⟨_, hown, fun i hi => ⟨.slice none 0 0, by simp [hi], World.ownsRow_nil _ _ _ _, by simp [Value.ownBlock]⟩, fun i j u u' _ hu hu' b hb => ?_⟩
  have := (List.getElem?_eq_some_iff.1 hu)
  obtain ⟨h1, rfl⟩ := this
  simp [Value.ownBlock] at hb
/-- The append of pin k's bell, in one form. -/
theorem bells_put {w w4 : World} {base g st c k : Nat} {ps : List (Int × Int)} {s : Nat} (h : BellsAt w base g st c (fun s => bA ps s k)) (hs : (pi ps k).1 = (s : Int)) (hst : s < st) {u v' : Value} (hu : w.cell? ⟨g, s, none⟩ = some u)
    (hg : w.grownBy w4 u.ownBlock) (hn : ∀ b, v'.ownBlock = some b → u.ownBlock = some b ∨ w.heap.size ≤ b) (ho' : w4.ownsRow base 2 1 v' (bA ps s k ++ [(pi ps k).2]).length (I64 (bA ps s k ++ [(pi ps k).2]))) :
    BellsAt (w4.setCell ⟨g, s, none⟩ v') base g st c (fun s => bA ps s (k + 1)) := by
  refine h.put hst hu hg hn ?_ (fun j hj => ?_)
  · have e : bA ps s (k + 1) = bA ps s k ++ [(pi ps k).2] := by rw [bA, if_pos hs]
    show World.ownsRow _ _ _ _ _ (bA ps s (k + 1)).length _
    rw [e]; exact ho'
  · show bA ps j (k + 1) = bA ps j k
    rw [bA, if_neg (by rw [hs]; omega)]

set_option maxRecDepth 100000 in
set_option maxHeartbeats 8000000 in
theorem bellsAt_any (v : Value) (ps : List (Int × Int)) (st : Nat) (bl : Int) (w : World) (hv : SlP w v ps) (hs : brB st bl ps = true) :
    Calls Tryz.prog 28 #[.agg #[.int .i64 st, .int .i64 bl, v]] w fun e w' => ∃ g : Nat, e = .returned (.slice (some ⟨g, 0, none⟩) st st) ∧ BellsAt w' (w.heap.size + 1) g st st (fun s => bA ps s ps.length) ∧ Below w.heap.size w w' := by
  obtain ⟨A, c, rfl, hac, hac', HA⟩ := hv.open_
  obtain ⟨⟨s1, s2⟩, ⟨l1, l2⟩, h3, hP⟩ := brB_iff.1 hs
  have HPI := Lib.hid (fun k (hk : k < ps.length) => pins_in hP hk)
  obtain ⟨i0, hi, hz0, hz1, hz2⟩ := info_parts rows_info
  clear hv hs hP
  go_enter Tryz.func28, Tryz.ntmps28
  have HK0 := Lib.hid (bx1 w 26 #[.int .i64 st, .int .i64 bl, .slice A ps.length c])
  go_wp2_with (at_make; refine wpList_make_full _ rfl _ _ 53 rfl (w.heap.size + 1) 27 i0 _ 1 Tryz.underlying53 hi hz0 hz1 _ _ _ _ st rfl rfl rfl rfl (by rw [hz2]; omega) (by simp only [maxLen]; omega) (by simp) ?_; intro w1 hown hg; have J0 := HK0.out.grown hg (by simp); have HJ := Lib.hid J0; have q0 := J0.cell 0 rfl; have q2 := J0.cell 2 rfl; have z0 := J0.lt; have HBL := Lib.hid (bells_zero st ps w1 (w.heap.size + 1) (w.heap.size + 1) (by rw [← toList_madeCells_one]; simpa [Value.cells] using hown)); have HB1 : Hid (Below w.heap.size w w1) := (below_of_grown (B := w.heap.size) (grown_trans (grown_of_below (by go_grown) _) hg) (Nat.le_refl _) (by intro k hk; cases hk)); clear hown hg J0)
  go_loopw [12] (fun i wr => ∃ k : Nat, k ≤ ps.length ∧ i = .int .i64 k ∧ Blk wr w.heap.size 26 #[.int .i64 st, .int .i64 bl, .slice A ps.length c] ∧ BellsAt wr (w.heap.size + 1) (w.heap.size + 1) st st (fun s => bA ps s k) ∧ Below w.heap.size w wr) (fun i _ => ps.length - (intOf i).toNat)
  case atStart => exact ⟨0, Nat.zero_le _, rfl, HJ.out, HBL.out, HB1.out⟩
  case round =>
    clear q0 q2 z0 HJ HBL HB1
    obtain ⟨k, hk, rfl, b0, hbl, hB⟩ := hrel
    have q2 := b0.cell 2 rfl
    have z0 := b0.lt
    have P0 := Lib.hid b0
    have BL := Lib.hid hbl
    clear b0 hbl
    by_cases hlt : k < ps.length
    · obtain ⟨ba, oa, rfl, hba, hca⟩ := HA.out k hlt
      have a0 : wr.cell? ⟨ba, oa + k * 2, none⟩ = _ := (hB.cell (p := ⟨ba, oa + k * 2, none⟩) hba).trans (hca k hlt).1
      have a1 : wr.cell? ⟨ba, oa + k * 2 + 1, none⟩ = _ := (hB.cell (p := ⟨ba, oa + (k * 2 + 1), none⟩) hba).trans (hca k hlt).2
      obtain ⟨⟨p1, p2⟩, p3, p4⟩ := HPI.out k hlt
      have i1 : (k : Int) < (ps.length : Int) := by omega
      have i3 : (ps.length : Int) ≤ (c : Int) := by omega
      have zb : ba < wr.heap.size := Nat.lt_of_lt_of_le hba hB.size
      obtain ⟨s, hss⟩ : ∃ s : Nat, (pi ps k).1 = (s : Int) := ⟨(pi ps k).1.toNat, by omega⟩
      have HSS := Lib.hid hss
      have hsst : s < st := by omega
      have hss2 : (s : Int) < (st : Int) := by omega
      obtain ⟨u, hu, ho, hug, hfz, hgl, _⟩ := BL.out.at_ hsst
      obtain ⟨A', c', rfl⟩ := own_form ho
      have hll : (bA ps s k).length ≤ 134217728 := Nat.le_trans (bA_length ps s k) (by omega)
      have HO := Lib.hid ho
      have HU := Lib.hid hu
      have HUG := Lib.hid hug
      have dp : Below wr.heap.size wr (wr.alloc (.cells #[.int .i64 (s : Int), .int .i64 (pi ps k).2] 49)) := by go_grown
      have DP := Lib.hid dp
      have BL2 := Lib.hid (BL.out.below dp)
      have P2 := Lib.hid (P0.out.below dp)
      have ng : ¬ wr.heap.size = w.heap.size + 1 := by omega
      have ng2 : ¬ w.heap.size + 1 = wr.heap.size := by omega
      have nh : ¬ w.heap.size = w.heap.size + 1 := by omega
      rw [hss] at a0
      clear hca HA hss ho hug dp
      go_wp2_with fail
      go_region_law
        ((refine step_app1h rfl _ _ (by rfl) (w.heap.size + 1) _ (bA ps s k) (by rfl) (own_below HO.out (by go_grown)) _ (wr.heap.size + 1) (by rfl) (heap_new2 wr _ _) hll (by simp; omega) ?_; intro b4 c4 w4 hown4 hb4 hg4 hd4; have G4 : (wr.alloc (.cells #[.int .i64 (s : Int), .int .i64 (pi ps k).2] 49)).grownBy w4 (Value.slice A' (bA ps s k).length c').ownBlock := (grown_trans (grown_of_below (by go_grown) _) hg4); have B4 : Below (w.heap.size + 1) wr w4 := (Below.trans (by go_grown) hb4); have PX : Blk w4 wr.heap.size 49 #[.int .i64 (s : Int), .int .i64 (pi ps k).2] := ((Blk.new wr 49 #[.int .i64 (s : Int), .int .i64 (pi ps k).2]).grown G4 (own_ne HO.out (Or.inr (Nat.le_refl _)))); have x0 := PX.cell 0 rfl; have x1 := PX.cell 1 rfl; have xz := PX.lt; have gb := G4.block (w.heap.size + 1) (by simp; omega) (fun e => HUG.out e.symm); have xc : w4.cell? ⟨w.heap.size + 1, s, none⟩ = some (.slice A' (bA ps s k).length c') := ((World.cell?_of_block gb).trans ((DP.out.cell (p := ⟨w.heap.size + 1, s, none⟩) hgl).trans HU.out)); have xf : w4.frozen? ⟨w.heap.size + 1, s, none⟩ = false := ((frozen_of_block gb).trans ((DP.out.frozen (p := ⟨w.heap.size + 1, s, none⟩) hgl).trans hfz)); have E4 := bells_put BL2.out HSS.out hsst ((DP.out.cell (p := ⟨w.heap.size + 1, s, none⟩) hgl).trans HU.out) G4 (v' := .slice (some ⟨b4, 0, none⟩) ((bA ps s k).length + 1) c4) (fun b hb => by simp [Value.ownBlock] at hb; subst hb; rcases hd4 with h | h; exact Or.inl h; right; rw [h]; simp) hown4; have HE4 := Lib.hid E4; have HP4 := Lib.hid (P0.out.belowB B4 (Nat.lt_succ_self _)); have HB4 := Lib.hid (hB.trans (B4.mono (Nat.le_succ _))); clear hown4 hb4 hg4 hd4 G4 B4 PX gb E4))
      all_goals
        go_wp2
        go_roundw
        case rel => exact ⟨k + 1, by omega, by go_num, HP4.out.far (by simp) _, HE4.out, HB4.out.setCell (by simp) _⟩
        case measure => simp [intOf]; omega
    · obtain rfl : k = ps.length := by omega
      clear HA
      go_wp2
      go_ret
      exact ⟨w.heap.size + 1, rfl, BL.out, hB⟩
end Go.Proofs.YtgaohmbgjjhdbaaGreatDoor
