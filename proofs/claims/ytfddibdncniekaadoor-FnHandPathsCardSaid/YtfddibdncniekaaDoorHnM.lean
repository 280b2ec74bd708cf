/- Hands: whether all bytes are actions, in the program (strings.Trim) and in the reference. -/
import Derived.Test.YtfddibdncniekaaDoorShHd
import Derived.Test.YtfddibdncniekaaDoorHnA
import Derived.Shelf.Strings.SlTrimAscii
import Derived.Deep.DrawnRows
namespace Go.Proofs.YtfddibdncniekaaDoor
open Go.RowKit Go.Shelf
attribute [local go_sem ↓] Go.wp_at_zero Go.wp_at_succ

/-- Byte j of a text. -/
def bY (s : ByteArray) (j : Nat) : UInt8 := s.data.toList.getD j 0
def kn1 (b : UInt8) : Bool := b == 98 || b == 102 || b == 108
def KnTo (s : ByteArray) (k : Nat) : Prop := ∀ j, j < k → kn1 (bY s j) = true
def knB (s : ByteArray) : Bool := s.data.toList.all kn1
theorem bY_eq {s : ByteArray} {j : Nat} (h : j < s.size) : bY s j = s.data.toList[j]'(by simpa using h) := by
  have h2 : j < s.data.toList.length := by simpa using h
  simp [bY, List.getD_eq_getElem?_getD, List.getElem?_eq_getElem h2]
theorem KnTo.zero (s : ByteArray) : KnTo s 0 := fun _ h => absurd h (Nat.not_lt_zero _)
theorem KnTo.succ {s : ByteArray} {k : Nat} (h : KnTo s k) (he : kn1 (bY s k) = true) : KnTo s (k + 1) := fun j hj => by
  rcases Nat.lt_or_ge j k with h3 | h3
  · exact h j h3
  · have : j = k := by omega
    subst this; exact he
theorem kn_t {s : ByteArray} (h : KnTo s s.size) : knB s = true := by
  rw [knB, List.all_eq_true]
  intro b hb
  obtain ⟨k, hk, rfl⟩ := List.getElem_of_mem hb
  have hk' : k < s.size := by simpa using hk
  rw [← bY_eq hk']; exact h k hk'
theorem kn_f {s : ByteArray} {k : Nat} (hk : k < s.size) (h : kn1 (bY s k) = false) : knB s = false := by
  rw [Bool.eq_false_iff]
  intro ht
  rw [knB, List.all_eq_true] at ht
  have := ht (bY s k) (by rw [bY_eq hk]; exact List.getElem_mem _)
  rw [h] at this; cases this
theorem trim_nil (l cs : List UInt8) : (Lib.trimS l cs = []) ↔ l.all (cs.contains ·) = true := by
  have key : ∀ l : List UInt8, l.dropWhile (cs.contains ·) = [] ↔ l.all (cs.contains ·) = true := fun l => by
    induction l with
    | nil => simp
    | cons a l ih =>
      rw [List.dropWhile_cons, List.all_cons]
      cases h : cs.contains a
      · simp
      · simpa using ih
  unfold Lib.trimS Lib.trimLeftS Lib.trimRightS
  rw [key, List.all_reverse]
  constructor
  · intro h
    have h2 : (l.reverse.dropWhile (cs.contains ·)) = [] := by
      cases hd : l.reverse.dropWhile (cs.contains ·) with
      | nil => rfl
      | cons a t =>
        have hh := List.head_dropWhile_not (cs.contains ·) (w := (by rw [hd]; simp : l.reverse.dropWhile (cs.contains ·) ≠ []))
        simp only [hd, List.head_cons] at hh
        rw [hd, List.all_cons, hh] at h
        cases h
    rw [key, List.all_reverse] at h2
    exact h2
  · intro h
    have h2 : (l.reverse.dropWhile (cs.contains ·)) = [] := by rw [key, List.all_reverse]; exact h
    rw [h2]; rfl
theorem kn1_has (b : UInt8) : ([98, 102, 108] : List UInt8).contains b = kn1 b := by
  unfold kn1
  rw [List.contains_cons, List.contains_cons, List.contains_cons, List.contains_nil, Bool.or_false, Bool.or_assoc]
theorem empty_kn {r : ByteArray} {b : Bool} (h : (r = ⟨#[]⟩) ↔ b = true) : r.toList.isEmpty = b := by
  have e : (r.toList.isEmpty = true) ↔ r = ⟨#[]⟩ := by
    rw [List.isEmpty_iff, Lib.toList_data]
    constructor
    · intro h1
      cases r with | mk a => simpa using h1
    · rintro rfl; rfl
  rw [Bool.eq_iff_iff, e, h]
theorem kn1_iff {s : ByteArray} {k : Nat} (h : k < s.size) : kn1 (bY s k) = true ↔ ((s[k].toNat : Int) = 98 ∨ (s[k].toNat : Int) = 102 ∨ (s[k].toNat : Int) = 108) := by
  have e : bY s k = s[k] := by rw [bY_eq h]; rfl
  have h1 : ∀ (b : UInt8) (n : Nat), n < 256 → (b == UInt8.ofNat n) = true → b.toNat = n := fun b n hn hb => by
    rw [beq_iff_eq] at hb; rw [hb]; exact UInt8.toNat_ofNat_of_lt hn
  rw [e, kn1, Bool.or_eq_true, Bool.or_eq_true, beq_iff_eq, beq_iff_eq, beq_iff_eq, ← UInt8.toNat_inj, ← UInt8.toNat_inj, ← UInt8.toNat_inj]
  constructor
  · rintro ((h | h) | h)
    · exact .inl (by rw [h]; rfl)
    · exact .inr (.inl (by rw [h]; rfl))
    · exact .inr (.inr (by rw [h]; rfl))
  · rintro (h | h | h)
    · exact .inl (.inl (by have : s[k].toNat = 98 := by omega
                           rw [this]; rfl))
    · exact .inl (.inr (by have : s[k].toNat = 102 := by omega
                           rw [this]; rfl))
    · exact .inr (by have : s[k].toNat = 108 := by omega
                     rw [this]; rfl)
theorem trim_kn (s : ByteArray) : ((⟨(Lib.trimS s.data.toList [98, 102, 108]).toArray⟩ : ByteArray) = ⟨#[]⟩) ↔ knB s = true := by
  have h := trim_nil s.data.toList [98, 102, 108]
  have e : (fun b : UInt8 => ([98, 102, 108] : List UInt8).contains b) = kn1 := funext kn1_has
  rw [e] at h
  rw [knB, ← h]
  constructor
  · intro h1
    have h2 := congrArg ByteArray.data h1
    simpa using h2
  · intro h1; rw [h1]

set_option maxHeartbeats 2000000 in
theorem areActions_any (s : ByteArray) (w : World) (hs : s.size ≤ 9223372036854775807) :
    Calls Tryd.prog 56 #[.string s] w fun e w' => e = .returned (.bool (knB s)) ∧ Below w.heap.size w w' := by
  have hcon := Any.strings_Trim_laid YtfddibdncniekaaDoor.layTrim (by kernel_rfl) s ⟨#[98, 102, 108]⟩ w hs (by decide) (ascii_of_all (by decide))
  change Calls Tryd.prog 83 _ _ (fun e w' => e = .returned (.string ⟨(Lib.trimS s.data.toList [98, 102, 108]).toArray⟩) ∧ Below w.heap.size w w') at hcon
  have HK := Lib.hid (trim_kn s)
  obtain ⟨r, hr⟩ : ∃ r : ByteArray, r = ⟨(Lib.trimS s.data.toList [98, 102, 108]).toArray⟩ := ⟨_, rfl⟩
  rw [← hr] at hcon HK
  have HC := Lib.hid hcon
  clear hcon hr
  go_enter Tryd.func56, Tryd.ntmps56
  go_wp2_with fail
  refine HC.out.mono ?_
  rintro e w' ⟨rfl, hB⟩
  go_wp2
  go_ret
  exact ⟨ret_b (empty_kn HK.out), hB⟩

set_option maxHeartbeats 2000000 in
theorem l23Known_any (s : ByteArray) (w : World) (hs : s.size ≤ 9223372036854775807) :
    Calls Tryd.prog 53 #[.string s] w fun e w' => e = .returned (.bool (knB s)) ∧ w = w' := by
  go_enter Tryd.func53, Tryd.ntmps53
  go_wp2
  go_loop [3] (fun i => ∃ k : Nat, k ≤ s.size ∧ i = .int .i64 k ∧ Hid (KnTo s k)) (fun i => s.size - (intOf i).toNat)
  case atStart => exact ⟨0, Nat.zero_le _, rfl, KnTo.zero _⟩
  case round =>
    obtain ⟨k, hk, rfl, hK⟩ := hrel
    by_cases hlt : k < s.size
    · have i1 : (k : Int) < (s.size : Int) := by omega
      have f1 := kn1_iff hlt
      cases hkn : kn1 (bY s k)
      · have n1 : ¬ (s[k].toNat : Int) = 98 := fun h => by rw [f1.2 (.inl h)] at hkn; cases hkn
        have n2 : ¬ (s[k].toNat : Int) = 102 := fun h => by rw [f1.2 (.inr (.inl h))] at hkn; cases hkn
        have n3 : ¬ (s[k].toNat : Int) = 108 := fun h => by rw [f1.2 (.inr (.inr h))] at hkn; cases hkn
        have HN := Lib.hid (kn_f hlt hkn)
        clear hkn f1
        go_wp2
        all_goals first
          | (exfalso; rename_i hX; simp [n1, n2, n3] at hX; done)
          | (go_ret; exact ⟨ret_b HN.out.symm, rfl⟩)
      · have HN := Lib.hid (hK.out.succ hkn)
        have f2 := f1.1 hkn
        clear hkn f1
        have e2 : (s.size : Int) - ((k : Int) + 1) < (s.size : Int) - k := by omega
        have HM : s.size - (intOf (Value.int IntKind.i64 ((k : Int) + 1))).toNat < s.size - (intOf (Value.int IntKind.i64 (k : Int))).toNat := by
          simp only [intOf]; omega
        rcases f2 with n1 | n1 | n1
        · go_wp2
          exact ⟨⟨k + 1, hlt, rfl, HN⟩, HM⟩
        · have n2 : ¬ (s[k].toNat : Int) = 98 := by omega
          go_wp2
          exact ⟨⟨k + 1, hlt, rfl, HN⟩, HM⟩
        · have n2 : ¬ (s[k].toNat : Int) = 98 := by omega
          have n3 : ¬ (s[k].toNat : Int) = 102 := by omega
          go_wp2
          exact ⟨⟨k + 1, hlt, rfl, HN⟩, HM⟩
    · obtain rfl : k = s.size := by omega
      go_wp2
      go_ret
      exact ⟨ret_b (kn_t hK.out).symm, rfl⟩
end Go.Proofs.YtfddibdncniekaaDoor
