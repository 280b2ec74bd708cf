/- Hands: the search for all states that actions lead to, in plain terms: a list of states with their paths, each state once; it stays valid, ends, and is closed. No program in sight. -/
import Derived.Test.YtfddibdncniekaaDoorHnN
namespace Go.Proofs.YtfddibdncniekaaDoor

/-- A state and the path that leads to it. -/
abbrev Way := (Int × Int) × ByteArray
def pw (L : List Way) (k : Nat) : Way := L.getD k ((0, 0), ⟨#[]⟩)
theorem pw_eq {L : List Way} {k : Nat} (h : k < L.length) : pw L k = L[k] := by simp [pw, List.getD, h]
theorem pw_mem {L : List Way} {k : Nat} (h : k < L.length) : pw L k ∈ L := by rw [pw_eq h]; exact List.getElem_mem h
theorem pw_left {L T : List Way} {k : Nat} (h : k < L.length) : pw (L ++ T) k = pw L k := by simp [pw, List.getD, List.getElem?_append, h]
theorem pw_at (L : List Way) (x : Way) (T : List Way) : pw (L ++ x :: T) L.length = x := by simp [pw, List.getD]
theorem mem_pw {L : List Way} {x : Way} (h : x ∈ L) : ∃ k, k < L.length ∧ pw L k = x := by
  obtain ⟨k, hk, rfl⟩ := List.getElem_of_mem h
  exact ⟨k, hk, pw_eq hk⟩
def by1 (b : UInt8) : ByteArray := ⟨#[b]⟩
/-- A state is put behind the list, where the list lacks it. -/
def wAdd (gs : List Int) (x : Way) (L : List Way) (b : UInt8) : List Way := if stpB gs b x.1 ∈ L.map Prod.fst then L else L ++ [(stpB gs b x.1, x.2 ++ by1 b)]
theorem wAdd_in {gs : List Int} {x : Way} {L : List Way} {b : UInt8} (h : stpB gs b x.1 ∈ L.map Prod.fst) : wAdd gs x L b = L := if_pos h
theorem wAdd_out {gs : List Int} {x : Way} {L : List Way} {b : UInt8} (h : ¬ stpB gs b x.1 ∈ L.map Prod.fst) : wAdd gs x L b = L ++ [(stpB gs b x.1, x.2 ++ by1 b)] := if_neg h
def wFold (gs : List Int) (x : Way) (L : List Way) (A : List UInt8) : List Way := A.foldl (wAdd gs x) L
theorem wFold_nil (gs : List Int) (x : Way) (L : List Way) : wFold gs x L [] = L := rfl
theorem wFold_snoc (gs : List Int) (x : Way) (L : List Way) (A : List UInt8) (b : UInt8) : wFold gs x L (A ++ [b]) = wAdd gs x (wFold gs x L A) b := by simp [wFold, List.foldl_append]
/-- The actions of a text, each once, in order. -/
def actA (s : ByteArray) : List UInt8 := [98, 102, 108].filter fun b => decide (b ∈ s.data.toList)
theorem actA_kn {s : ByteArray} {b : UInt8} (h : b ∈ actA s) : kn1 b = true := by
  have := (List.mem_filter.1 h).1
  simp only [List.mem_cons, List.not_mem_nil, or_false] at this
  rcases this with rfl | rfl | rfl <;> rfl
theorem actA_iff {s : ByteArray} {b : UInt8} : b ∈ actA s ↔ kn1 b = true ∧ b ∈ s.data.toList := by
  constructor
  · intro h
    have := (List.mem_filter.1 h).2
    exact ⟨actA_kn h, by simpa using this⟩
  · rintro ⟨h1, h2⟩
    refine List.mem_filter.2 ⟨?_, by simpa using h2⟩
    rcases kn1_cases h1 with rfl | rfl | rfl <;> simp
def waysR (gs : List Int) (A : List UInt8) : Nat → List Way → Nat → List Way
  | 0, L, _ => L
  | f + 1, L, i => if i < L.length then waysR gs A f (wFold gs (pw L i) L A) (i + 1) else L
theorem waysR_end {gs : List Int} {A : List UInt8} {f : Nat} {L : List Way} : waysR gs A f L L.length = L := by
  cases f with
  | zero => rfl
  | succ f => rw [waysR, if_neg (Nat.lt_irrefl _)]
theorem waysR_step {gs : List Int} {A : List UInt8} {f : Nat} {L : List Way} {i : Nat} (h : i < L.length) : waysR gs A (f + 1) L i = waysR gs A f (wFold gs (pw L i) L A) (i + 1) := by rw [waysR, if_pos h]
/-- All states and their paths, in the order of the search. -/
def waysOf (gs : List Int) (h q : Int) (s : ByteArray) : List Way := waysR gs (actA s) (12 * gs.length + 1) [((h, q), ⟨#[]⟩)] 0

/-- A list of the search. -/
structure WSt (gs : List Int) (A : List UInt8) (x0 : Int × Int) (L : List Way) : Prop where
  nodup : (L.map Prod.fst).Nodup
  valid : ∀ y ∈ L, hsB gs y.1.1 y.1.2 = true
  size : ∀ k, k < L.length → (pw L k).2.size ≤ k
  pos : 0 < L.length
  hd : pw L 0 = (x0, ⟨#[]⟩)
  par : ∀ k, 0 < k → k < L.length → ∃ j b, j < k ∧ b ∈ A ∧ pw L k = (stpB gs b (pw L j).1, (pw L j).2 ++ by1 b)
theorem WSt.begin {gs : List Int} {A : List UInt8} {h q : Int} (hx : hsB gs h q = true) : WSt gs A (h, q) [((h, q), ⟨#[]⟩)] := by
  refine ⟨by simp, fun y hy => ?_, fun k hk => ?_, by simp, rfl, fun k h0 h1 => ?_⟩
  · rw [List.mem_singleton.1 hy]; exact hx
  · obtain rfl : k = 0 := by simpa using hk
    exact Nat.le_refl 0
  · simp at h1; omega
theorem WSt.add {gs : List Int} {A : List UInt8} {x0 : Int × Int} {L : List Way} (h : WSt gs A x0 L) (h1 : 1 ≤ gs.length) {i : Nat} (hi : i < L.length) {b : UInt8} (hb : b ∈ A) :
    WSt gs A x0 (wAdd gs (pw L i) L b) ∧ ∃ T, wAdd gs (pw L i) L b = L ++ T := by
  by_cases hin : stpB gs b (pw L i).1 ∈ L.map Prod.fst
  · rw [wAdd_in hin]
    exact ⟨h, [], by simp⟩
  · rw [wAdd_out hin]
    refine ⟨⟨?_, fun y hy => ?_, fun k hk => ?_, by simp, ?_, fun k h0 hk => ?_⟩, _, rfl⟩
    · rw [List.map_append, List.nodup_append]
      refine ⟨h.nodup, by simp, fun a ha c hc e => hin ?_⟩
      have hc' : c = stpB gs b (pw L i).1 := by simpa using hc
      rw [← hc', ← e]; exact ha
    · rcases List.mem_append.1 hy with hy | hy
      · exact h.valid y hy
      · rw [List.mem_singleton.1 hy]
        exact stpB_in h1 b (h.valid _ (pw_mem hi))
    · rw [List.length_append, List.length_singleton] at hk
      rcases Nat.lt_or_ge k L.length with hk2 | hk2
      · rw [pw_left hk2]; exact h.size k hk2
      · obtain rfl : k = L.length := by omega
        rw [pw_at]
        have := h.size i hi
        simp only [ByteArray.size_append, by1]
        show (pw L i).2.size + 1 ≤ L.length
        omega
    · rw [pw_left h.pos]; exact h.hd
    · rw [List.length_append, List.length_singleton] at hk
      rcases Nat.lt_or_ge k L.length with hk2 | hk2
      · obtain ⟨j, c, hj, hc, e⟩ := h.par k h0 hk2
        exact ⟨j, c, hj, hc, by rw [pw_left hk2, pw_left (by omega), e]⟩
      · obtain rfl : k = L.length := by omega
        exact ⟨i, b, hi, hb, by rw [pw_at, pw_left hi]⟩
theorem WSt.fold {gs : List Int} {A : List UInt8} {x0 : Int × Int} {L : List Way} (h : WSt gs A x0 L) (h1 : 1 ≤ gs.length) {i : Nat} (hi : i < L.length) :
    ∀ (B : List UInt8), (∀ b ∈ B, b ∈ A) → WSt gs A x0 (wFold gs (pw L i) L B) ∧ (∃ T, wFold gs (pw L i) L B = L ++ T) ∧ ∀ b ∈ B, stpB gs b (pw L i).1 ∈ (wFold gs (pw L i) L B).map Prod.fst := by
  have key : ∀ (B : List UInt8) (M : List Way), WSt gs A x0 M → (∃ T, M = L ++ T) → (∀ b ∈ B, b ∈ A) → WSt gs A x0 (wFold gs (pw L i) M B) ∧ (∃ T, wFold gs (pw L i) M B = M ++ T) ∧ ∀ b ∈ B, stpB gs b (pw L i).1 ∈ (wFold gs (pw L i) M B).map Prod.fst := fun B => by
    induction B with
    | nil => intro M hM _ _; exact ⟨hM, ⟨[], by simp [wFold]⟩, fun b hb => by cases hb⟩
    | cons b B ih =>
      rintro M hM ⟨T, hT⟩ hB
      have hiM : i < M.length := by rw [hT, List.length_append]; omega
      have e : pw M i = pw L i := by rw [hT, pw_left hi]
      have ha := hM.add h1 hiM (hB b (by simp))
      rw [e] at ha
      obtain ⟨a1, T2, hT2⟩ := ha
      obtain ⟨b1, ⟨T3, hT3⟩, b3⟩ := ih _ a1 ⟨T ++ T2, by rw [hT2, hT, List.append_assoc]⟩ fun c hc => hB c (List.mem_cons_of_mem _ hc)
      have e2 : wFold gs (pw L i) M (b :: B) = wFold gs (pw L i) (wAdd gs (pw L i) M b) B := rfl
      rw [e2]
      refine ⟨b1, ⟨T2 ++ T3, by rw [hT3, hT2, List.append_assoc]⟩, fun c hc => ?_⟩
      rcases List.mem_cons.1 hc with rfl | hc
      · rw [hT3, List.map_append]
        refine List.mem_append_left _ ?_
        by_cases hin : stpB gs c (pw L i).1 ∈ M.map Prod.fst
        · rw [wAdd_in hin]; exact hin
        · rw [wAdd_out hin, List.map_append]; simp
      · exact b3 c hc
  exact fun B hB => key B L h ⟨[], by simp⟩ hB
theorem nodup_le' {l : List Nat} {n : Nat} (hn : l.Nodup) (h : ∀ c ∈ l, c < n) : l.length ≤ n := by
  have hp : l.Perm ((List.range n).filter fun c => decide (c ∈ l)) := by
    refine (List.perm_ext_iff_of_nodup hn (List.nodup_range.filter _)).2 fun c => ?_
    rw [List.mem_filter, List.mem_range, decide_eq_true_eq]
    exact ⟨fun hc => ⟨h c hc, hc⟩, fun hc => hc.2⟩
  have h1 := hp.length_eq
  have h2 := List.length_filter_le (fun c => decide (c ∈ l)) (List.range n)
  rw [List.length_range] at h2
  omega
/-- The number of a state. -/
def cdH (n : Nat) (x : Int × Int) : Nat := x.1.toNat * n + x.2.toNat
theorem cdH_lt {gs : List Int} {x : Int × Int} (h : hsB gs x.1 x.2 = true) : cdH gs.length x < 12 * gs.length := by
  obtain ⟨⟨a, b⟩, c, d⟩ := hsB_iff.1 h
  have h1 : x.1.toNat * gs.length ≤ 11 * gs.length := Nat.mul_le_mul (by omega) (Nat.le_refl _)
  unfold cdH
  omega
theorem cdH_inj {gs : List Int} {x y : Int × Int} (hx : hsB gs x.1 x.2 = true) (hy : hsB gs y.1 y.2 = true) (e : cdH gs.length x = cdH gs.length y) : x = y := by
  obtain ⟨⟨a, b⟩, c, d⟩ := hsB_iff.1 hx
  obtain ⟨⟨a', b'⟩, c', d'⟩ := hsB_iff.1 hy
  have hn : 0 < gs.length := by omega
  have k : ∀ z : Int × Int, 0 ≤ z.2 → z.2 ≤ (gs.length : Int) - 1 → cdH gs.length z / gs.length = z.1.toNat ∧ cdH gs.length z % gs.length = z.2.toNat := fun z z1 z2 => by
    have hz : z.2.toNat < gs.length := by omega
    unfold cdH
    rw [Nat.add_comm, Nat.add_mul_div_right _ _ hn, Nat.add_mul_mod_self_right, Nat.mod_eq_of_lt hz, Nat.div_eq_of_lt hz]
    omega
  have k1 := k x c d
  have k2 := k y c' d'
  rw [e] at k1
  exact Prod.ext (by omega) (by omega)
theorem WSt.count {gs : List Int} {A : List UInt8} {x0 : Int × Int} {L : List Way} (h : WSt gs A x0 L) : L.length ≤ 12 * gs.length := by
  have hv : ∀ y ∈ L.map Prod.fst, hsB gs y.1 y.2 = true := fun y hy => by
    obtain ⟨z, hz, rfl⟩ := List.mem_map.1 hy
    exact h.valid z hz
  have hn : ((L.map Prod.fst).map (cdH gs.length)).Nodup := by
    rw [List.nodup_iff_pairwise_ne, List.pairwise_map]
    exact (List.nodup_iff_pairwise_ne.1 h.nodup).imp_of_mem fun {a b} ha hb hne e => hne (cdH_inj (hv a ha) (hv b hb) e)
  have := nodup_le' hn (n := 12 * gs.length) fun c hc => by
    obtain ⟨x, hx, rfl⟩ := List.mem_map.1 hc
    exact cdH_lt (hv x hx)
  simpa using this
/-- Closed up to place i. -/
def WCl (gs : List Int) (A : List UInt8) (L : List Way) (i : Nat) : Prop := ∀ j, j < i → ∀ b ∈ A, stpB gs b (pw L j).1 ∈ L.map Prod.fst
theorem WCl.next {gs : List Int} {A : List UInt8} {x0 : Int × Int} {L : List Way} {i : Nat} (h : WSt gs A x0 L) (hc : WCl gs A L i) (h1 : 1 ≤ gs.length) (hi : i < L.length) : WCl gs A (wFold gs (pw L i) L A) (i + 1) := by
  obtain ⟨_, ⟨T, hT⟩, h3⟩ := h.fold h1 hi A fun b hb => hb
  intro j hj b hb
  have e : pw (wFold gs (pw L i) L A) j = pw L j := by rw [hT]; exact pw_left (by omega)
  rw [e]
  rcases Nat.lt_or_ge j i with h2 | h2
  · rw [hT, List.map_append]; exact List.mem_append_left _ (hc j h2 b hb)
  · obtain rfl : j = i := by omega
    exact h3 b hb
theorem waysR_ok {gs : List Int} {A : List UInt8} {x0 : Int × Int} (h1 : 1 ≤ gs.length) : ∀ (f : Nat) (L : List Way) (i : Nat), WSt gs A x0 L → WCl gs A L i → i ≤ L.length → 12 * gs.length + 1 ≤ f + i →
    WSt gs A x0 (waysR gs A f L i) ∧ WCl gs A (waysR gs A f L i) (waysR gs A f L i).length
  | 0, L, i, h, hc, hi, hf => by have := h.count; omega
  | f + 1, L, i, h, hc, hi, hf => by
    by_cases hlt : i < L.length
    · rw [waysR_step hlt]
      obtain ⟨k1, ⟨T, hT⟩, _⟩ := h.fold h1 hlt A fun b hb => hb
      exact waysR_ok h1 f _ _ k1 (hc.next h h1 hlt) (by rw [hT, List.length_append]; omega) (by omega)
    · obtain rfl : i = L.length := by omega
      rw [waysR_end]
      exact ⟨h, hc⟩
theorem waysOf_ok {gs : List Int} {h q : Int} (s : ByteArray) (h1 : 1 ≤ gs.length) (hx : hsB gs h q = true) : WSt gs (actA s) (h, q) (waysOf gs h q s) ∧ WCl gs (actA s) (waysOf gs h q s) (waysOf gs h q s).length :=
  waysR_ok h1 _ _ _ (WSt.begin hx) (fun j hj => absurd hj (Nat.not_lt_zero _)) (by simp) (by omega)
end Go.Proofs.YtfddibdncniekaaDoor
