/- Chimes: texts of barrels, read back (plain). -/
import Derived.Test.YtgaohmbgjjhdbaaGreatDoorTtB
import Derived.Lib.SplitLaws
namespace Go.Proofs.YtgaohmbgjjhdbaaGreatDoor
open Go.RowKit

/-- A text cut at every byte c. -/
def spl (c : UInt8) : List UInt8 → List (List UInt8)
  | [] => [[]]
  | b :: l => if b = c then [] :: spl c l else ((b :: (spl c l).headD []) :: (spl c l).tail)
theorem spl_ne (c : UInt8) (l : List UInt8) : spl c l ≠ [] := by
  cases l with
  | nil => simp [spl]
  | cons b l => unfold spl; split <;> simp
theorem spl_none {c : UInt8} {l : List UInt8} (h : ∀ x ∈ l, x ≠ c) : spl c l = [l] := by
  induction l with
  | nil => rfl
  | cons b l ih =>
    have h1 : b ≠ c := h b (by simp)
    rw [spl, if_neg h1, ih fun x hx => h x (by simp [hx])]
    rfl
theorem spl_app {c : UInt8} {a : List UInt8} (h : ∀ x ∈ a, x ≠ c) (r : List UInt8) : spl c (a ++ c :: r) = a :: spl c r := by
  induction a with
  | nil => simp [spl]
  | cons b l ih =>
    have h1 : b ≠ c := h b (by simp)
    rw [List.cons_append, spl, if_neg h1, ih fun x hx => h x (by simp [hx])]
    rfl
theorem join_cc (a b : List UInt8) (r : List (List UInt8)) (c : UInt8) : Lib.join (a :: b :: r) [c] = a ++ c :: Lib.join (b :: r) [c] := by
  simp [Lib.join, List.intercalate]
theorem spl_join {c : UInt8} : ∀ {L : List (List UInt8)}, L ≠ [] → (∀ l ∈ L, ∀ x ∈ l, x ≠ c) → spl c (Lib.join L [c]) = L
  | [], h, _ => absurd rfl h
  | [a], _, h => by rw [Lib.join_one]; exact spl_none (h a (by simp))
  | a :: b :: r, _, h => by
    rw [join_cc, spl_app (h a (by simp)), spl_join (by simp) fun l hl => h l (by simp only [List.mem_cons] at hl ⊢; exact Or.inr hl)]
/-- The pins that a step's text says. -/
def rdS (i : Nat) (p : List UInt8) : List (Int × Int) := if p = [45] then [] else p.map fun c => ((i : Int), (c.toNat : Int) - 97)
def rdT (L : List (List UInt8)) (k : Nat) : List (Int × Int) := (List.range k).flatMap fun i => rdS i (L.getD i [])
theorem rdT_succ (L : List (List UInt8)) (k : Nat) : rdT L (k + 1) = rdT L k ++ rdS k (L.getD k []) := by simp [rdT, List.range_succ]
theorem rdS_len (i : Nat) (p : List UInt8) : (rdS i p).length ≤ p.length := by unfold rdS; split <;> simp

theorem bA_filter (ps : List (Int × Int)) (s : Nat) : ∀ k, k ≤ ps.length → (bA ps s k).map (fun b => ((s : Int), b)) = (ps.take k).filter fun p => decide (p.1 = (s : Int))
  | 0, _ => by simp [bA]
  | k + 1, hk => by
    have ih := bA_filter ps s k (by omega)
    have hp : pi ps k = ps[k] := pi_eq (by omega)
    rw [bA, List.take_succ_eq_append_getElem (by omega), List.filter_append, hp, ← ih]
    by_cases h : (ps[k]).1 = (s : Int)
    · rw [if_pos h, List.map_append, List.filter_cons_of_pos (by simpa using h), List.filter_nil]
      congr 1
      show [((s : Int), (ps[k]).2)] = [ps[k]]
      rw [← h]
    · rw [if_neg h]
      simp [h]
theorem sort_split (S : Nat) : ∀ {ps : List (Int × Int)}, ps.Pairwise (fun a b => a.1 ≤ b.1) → (∀ p ∈ ps, p.1 < (S : Int) + 1) → ps = ps.filter (fun p => decide (p.1 < (S : Int))) ++ ps.filter (fun p => decide (p.1 = (S : Int)))
  | [], _, _ => rfl
  | p :: r, hs, hl => by
    obtain ⟨h1, h2⟩ := List.pairwise_cons.1 hs
    have ih := sort_split S h2 fun q hq => hl q (by simp [hq])
    have hp := hl p (by simp)
    by_cases h : p.1 < (S : Int)
    · have hne : ¬ p.1 = (S : Int) := by omega
      simp only [List.filter_cons, h, hne, decide_true, decide_false, if_true, List.cons_append]
      rw [if_neg (by simp), ← ih]
    · have hpe : p.1 = (S : Int) := by omega
      have e1 : r.filter (fun q => decide (q.1 < (S : Int))) = [] := by
        rw [List.filter_eq_nil_iff]; intro q hq; have := h1 q hq; simp; omega
      rw [e1, List.nil_append] at ih
      simp only [List.filter_cons, hpe, decide_true, if_true]
      rw [if_neg (by simp), e1, List.nil_append, ← ih]
theorem flatMap_cg {α β : Type} {f g : α → List β} : ∀ {l : List α}, (∀ x ∈ l, f x = g x) → l.flatMap f = l.flatMap g
  | [], _ => rfl
  | a :: l, h => by rw [List.flatMap_cons, List.flatMap_cons, h a (by simp), flatMap_cg fun x hx => h x (by simp [hx])]
theorem sort_flat : ∀ (S : Nat) {ps : List (Int × Int)}, ps.Pairwise (fun a b => a.1 ≤ b.1) → (∀ p ∈ ps, 0 ≤ p.1 ∧ p.1 < (S : Int)) → ((List.range S).flatMap fun (i : Nat) => ps.filter fun p => decide (p.1 = (i : Int))) = ps
  | 0, ps, _, hl => by
    cases ps with
    | nil => rfl
    | cons p r => have := hl p (by simp); omega
  | S + 1, ps, hs, hl => by
    have h0 := sort_split S hs fun p hp => by have := hl p hp; omega
    have h1 := sort_flat S (ps := ps.filter fun p => decide (p.1 < (S : Int))) (hs.sublist List.filter_sublist) fun p hp => by
      have := List.mem_filter.1 hp
      have h2 := hl p this.1
      have h3 : p.1 < (S : Int) := by simpa using this.2
      omega
    rw [List.range_succ, List.flatMap_append, List.flatMap_singleton]
    conv => rhs; rw [h0]
    congr 1
    conv => rhs; rw [← h1]
    refine flatMap_cg ?_
    intro i hi
    have hi' := List.mem_range.1 hi
    rw [List.filter_filter]
    apply List.filter_congr
    intro p _
    by_cases h : p.1 = (i : Int)
    · simp [h]; omega
    · simp [h]
theorem sorted_of {st bl : Int} {ps : List (Int × Int)} (h : PinsTo st bl ps ps.length) : ps.Pairwise (fun a b => a.1 ≤ b.1) := by
  have key : ∀ j, j < ps.length → ∀ i, i ≤ j → (pi ps i).1 ≤ (pi ps j).1 := by
    intro j
    induction j with
    | zero => intro _ i hi; obtain rfl : i = 0 := by omega
              exact Int.le_refl _
    | succ j ih =>
      intro hj i hi
      by_cases e : i = j + 1
      · subst e; exact Int.le_refl _
      · have h1 := ih (by omega) i (by omega)
        have h2 := (h (j + 1) hj).2.2 (by omega)
        rw [Nat.add_sub_cancel] at h2
        simp only [befP, Bool.or_eq_true, Bool.and_eq_true, decide_eq_true_eq] at h2
        omega
  rw [List.pairwise_iff_getElem]
  intro i j hi hj hij
  have := key j hj i (by omega)
  rwa [pi_eq hi, pi_eq hj] at this
/-- The letters of a valid barrel, read back. -/
theorem lt_back {b : Int} (h0 : 0 ≤ b) (h1 : b ≤ 7) : ((ltB b).toNat : Int) - 97 = b ∧ ltB b ≠ 45 ∧ ltB b ≠ 46 ∧ ltB b ≠ 58 := by
  rcases (show b = 0 ∨ b = 1 ∨ b = 2 ∨ b = 3 ∨ b = 4 ∨ b = 5 ∨ b = 6 ∨ b = 7 by omega) with rfl | rfl | rfl | rfl | rfl | rfl | rfl | rfl <;> decide +kernel
theorem rdS_st {st bl : Int} {ps : List (Int × Int)} (h : brB st bl ps = true) (i : Nat) : rdS i (stL ps i) = ps.filter fun p => decide (p.1 = (i : Int)) := by
  obtain ⟨⟨s1, s2⟩, ⟨l1, l2⟩, h3, hP⟩ := brB_iff.1 h
  have hb : ∀ b ∈ bA ps i ps.length, 0 ≤ b ∧ b ≤ 7 := fun b hb => by have := bA_in hP i ps.length (Nat.le_refl _) b hb; omega
  have hf := bA_filter ps i ps.length (Nat.le_refl _)
  rw [List.take_length] at hf
  rw [← hf]
  have e1 : (rowL ps i ps.length).map (fun c => ((i : Int), (c.toNat : Int) - 97)) = (bA ps i ps.length).map fun b => ((i : Int), b) := by
    rw [rowL, List.map_map]
    exact List.map_congr_left fun b hbb => by
      obtain ⟨h0, h1⟩ := hb b hbb
      show ((i : Int), ((ltB b).toNat : Int) - 97) = _
      rw [(lt_back h0 h1).1]
  rw [stL]
  by_cases h0 : rowL ps i ps.length = []
  · rw [if_pos h0]
    have : bA ps i ps.length = [] := by rw [rowL] at h0; simpa using h0
    rw [this]; rfl
  · rw [if_neg h0, rdS, if_neg, e1]
    intro e
    cases hbA : bA ps i ps.length with
    | nil => rw [rowL, hbA] at h0; exact h0 rfl
    | cons b r =>
      rw [rowL, hbA, List.map_cons] at e
      have h2 := hb b (by rw [hbA]; simp)
      exact (lt_back h2.1 h2.2).2.1 (by injection e)
theorem stL_no {st bl : Int} {ps : List (Int × Int)} (h : brB st bl ps = true) (i : Nat) : ∀ x ∈ stL ps i, x ≠ 46 ∧ x ≠ 58 := by
  obtain ⟨⟨s1, s2⟩, ⟨l1, l2⟩, h3, hP⟩ := brB_iff.1 h
  intro x hx
  rw [stL] at hx
  split at hx
  · rw [List.mem_singleton.1 hx]; decide
  · rw [rowL] at hx
    obtain ⟨b, hb, rfl⟩ := List.mem_map.1 hx
    have := bA_in hP i ps.length (Nat.le_refl _) b hb
    exact (lt_back this.1 (by omega)).2.2
theorem rdT_st {S : Nat} {bl : Int} {ps : List (Int × Int)} (h : brB (S : Int) bl ps = true) : rdT (stsL ps S) S = ps := by
  obtain ⟨⟨s1, s2⟩, ⟨l1, l2⟩, h3, hP⟩ := brB_iff.1 h
  have h1 := sort_flat S (sorted_of hP) fun p hp => by
    obtain ⟨k, hk, rfl⟩ := List.getElem_of_mem hp
    have := pins_in hP hk
    rw [pi_eq hk] at this
    omega
  refine Eq.trans ?_ h1
  rw [rdT]
  have key : ∀ n, n ≤ S → (List.range n).flatMap (fun i => rdS i ((stsL ps S).getD i [])) = (List.range n).flatMap fun (i : Nat) => ps.filter fun p => decide (p.1 = (i : Int)) := by
    intro n
    induction n with
    | zero => intro _; rfl
    | succ n ih =>
      intro hn
      rw [List.range_succ, List.flatMap_append, List.flatMap_append, ih (by omega), List.flatMap_singleton, List.flatMap_singleton]
      congr 1
      rw [← rdS_st h n]
      congr 1
      simp [stsL, List.getD, show n < S by omega]
  exact key S (Nat.le_refl _)
/-- A canonical text. -/
def Can (S : Nat) (m : Nat) (ps : List (Int × Int)) (s : List UInt8) : Prop := brB (S : Int) (m : Int) ps = true ∧ s = txL (m : Int) ps S
theorem dec1 {m : Nat} (h : m ≤ 8) : Lib.decDigits m = [UInt8.ofNat (48 + m)] := by rw [Lib.decDigits, dif_pos (by omega)]
theorem dg_no {m : Nat} (h : m ≤ 8) : ∀ x ∈ Lib.decDigits m, x ≠ 58 ∧ x ≠ 46 := by
  rw [dec1 h]
  intro x hx
  rw [List.mem_singleton.1 hx]
  rcases (show m = 0 ∨ m = 1 ∨ m = 2 ∨ m = 3 ∨ m = 4 ∨ m = 5 ∨ m = 6 ∨ m = 7 ∨ m = 8 by omega) with rfl | rfl | rfl | rfl | rfl | rfl | rfl | rfl | rfl <;> decide
theorem join_no {c : UInt8} (h0 : c ≠ 46) : ∀ {L : List (List UInt8)}, (∀ l ∈ L, ∀ x ∈ l, x ≠ c) → ∀ x ∈ Lib.join L [46], x ≠ c
  | [], _, x, hx => by rw [Lib.join_nil] at hx; cases hx
  | [a], h, x, hx => by rw [Lib.join_one] at hx; exact h a (by simp) x hx
  | a :: b :: r, h, x, hx => by
    rw [join_cc] at hx
    rcases List.mem_append.1 hx with hx | hx
    · exact h a (by simp) x hx
    · rcases List.mem_cons.1 hx with rfl | hx
      · exact fun e => h0 e.symm
      · exact join_no h0 (fun l hl => h l (by simp only [List.mem_cons] at hl ⊢; exact Or.inr hl)) x hx
/-- What a canonical text is cut into: at the colon, and at the dots behind it. -/
theorem Can.parts {S m : Nat} {ps : List (Int × Int)} {s : List UInt8} (h : Can S m ps s) : s = Lib.decDigits m ++ 58 :: Lib.join (stsL ps S) [46] ∧ (∀ x ∈ Lib.decDigits m, x ≠ 58) ∧ spl 58 s = [Lib.decDigits m, Lib.join (stsL ps S) [46]] ∧ spl 46 (Lib.join (stsL ps S) [46]) = stsL ps S := by
  obtain ⟨hb, hs⟩ := h
  obtain ⟨⟨s1, s2⟩, ⟨l1, l2⟩, h3, hP⟩ := brB_iff.1 hb
  have e1 : s = Lib.decDigits m ++ 58 :: Lib.join (stsL ps S) [46] := by rw [hs, txL]; simp
  have hn : ∀ l ∈ stsL ps S, ∀ x ∈ l, x ≠ 46 ∧ x ≠ 58 := fun l hl => by
    obtain ⟨i, _, rfl⟩ := List.mem_map.1 hl
    exact stL_no hb i
  have d := dg_no (m := m) (by omega)
  refine ⟨e1, fun x hx => (d x hx).1, ?_, ?_⟩
  · rw [e1, spl_app fun x hx => (d x hx).1, spl_none]
    exact join_no (by decide) fun l hl x hx => (hn l hl x hx).2
  · exact spl_join (fun e => by have := stsL_length ps S; rw [e] at this; simp at this; omega) fun l hl x hx => (hn l hl x hx).1
theorem dec_inj {m n : Nat} (hm : m ≤ 8) (hn : n ≤ 8) (h : Lib.decDigits m = Lib.decDigits n) : m = n := by
  rw [dec1 hm, dec1 hn] at h
  injection h with h _
  have := congrArg UInt8.toNat h
  simp only [UInt8.toNat_ofNat'] at this
  omega
/-- A text is canonical for one barrel alone. -/
theorem Can.inj {S S' m m' : Nat} {ps ps' : List (Int × Int)} {s : List UInt8} (h : Can S m ps s) (h' : Can S' m' ps' s) : S = S' ∧ m = m' ∧ ps = ps' := by
  have h1 := h.parts
  have h2 := h'.parts
  have e := h1.2.2.1.symm.trans h2.2.2.1
  injection e with e1 e2
  injection e2 with e2 _
  have e3 : stsL ps S = stsL ps' S' := by rw [← h1.2.2.2, ← h2.2.2.2, e2]
  have e4 : S = S' := by rw [← stsL_length ps S, ← stsL_length ps' S', e3]
  have b1 := brB_iff.1 h.1
  have b2 := brB_iff.1 h'.1
  refine ⟨e4, dec_inj (by omega) (by omega) e1, ?_⟩
  rw [← rdT_st h.1, ← rdT_st h'.1, e3, e4]
end Go.Proofs.YtgaohmbgjjhdbaaGreatDoor
