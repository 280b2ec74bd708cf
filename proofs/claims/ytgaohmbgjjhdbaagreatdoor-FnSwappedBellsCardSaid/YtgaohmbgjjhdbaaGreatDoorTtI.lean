/- Chimes: a text cut at every byte of a kind, in the reference (l01Split). -/
import Derived.Test.YtgaohmbgjjhdbaaGreatDoorTtG
import Derived.Laws.OwnMore
namespace Go.Proofs.YtgaohmbgjjhdbaaGreatDoor
open Go.RowKit
attribute [local go_sem ↓] Go.wp_at_zero Go.wp_at_succ

/-- The text is cut up to place st, and holds no c from there up to i. -/
structure SplAt (c : UInt8) (s : List UInt8) (L : List (List UInt8)) (st i : Nat) : Prop where
  cut : spl c s = L ++ spl c (s.drop st)
  le : st ≤ i
  no : ∀ x ∈ (s.drop st).take (i - st), x ≠ c
theorem SplAt.zero (c : UInt8) (s : List UInt8) : SplAt c s [] 0 0 := { cut := by simp, le := Nat.le_refl _, no := by simp }
theorem SplAt.miss {c : UInt8} {s : List UInt8} {L : List (List UInt8)} {st i : Nat} (h : SplAt c s L st i) (hi : i < s.length) (hne : s[i] ≠ c) : SplAt c s L st (i + 1) := {
  cut := h.cut
  le := Nat.le_succ_of_le h.le
  no := by
    have := h.le
    rw [show i + 1 - st = (i - st) + 1 by omega, List.take_succ_eq_append_getElem (by simp; omega)]
    intro x hx
    rcases List.mem_append.1 hx with hx | hx
    · exact h.no x hx
    · rw [List.mem_singleton.1 hx, List.getElem_drop]
      simpa [show st + (i - st) = i by omega] using hne }
theorem SplAt.hit {c : UInt8} {s : List UInt8} {L : List (List UInt8)} {st i : Nat} (h : SplAt c s L st i) (hi : i < s.length) (he : s[i] = c) : SplAt c s (L ++ [(s.drop st).take (i - st)]) (i + 1) (i + 1) := {
  cut := by
    have := h.le
    have e1 : s.drop st = (s.drop st).take (i - st) ++ c :: s.drop (i + 1) := by
      conv => lhs; rw [← List.take_append_drop (i - st) (s.drop st)]
      rw [List.drop_drop, show st + (i - st) = i by omega, List.drop_eq_getElem_cons hi, he]
    rw [h.cut, List.append_assoc]
    congr 1
    conv => lhs; rw [e1]
    rw [spl_app h.no]
    rfl
  le := Nat.le_refl _
  no := by simp }
theorem SplAt.last {c : UInt8} {s : List UInt8} {L : List (List UInt8)} {st : Nat} (h : SplAt c s L st s.length) : spl c s = L ++ [s.drop st] := by
  have := h.no
  rw [List.take_of_length_le (by simp)] at this
  rw [h.cut, spl_none this]
theorem SplAt.len {c : UInt8} {s : List UInt8} {L : List (List UInt8)} {st i : Nat} (h : SplAt c s L st i) : L.length ≤ (spl c s).length := by rw [h.cut]; simp
theorem spl_len (c : UInt8) (s : List UInt8) : (spl c s).length ≤ s.length + 1 := by
  induction s with
  | nil => simp [spl]
  | cons b l ih =>
    rw [spl]
    split
    · simp; omega
    · have := spl_ne c l
      cases h : spl c l with
      | nil => exact absurd h this
      | cons a r => rw [h] at ih; simp at ih ⊢; omega
theorem bT_cut (s : List UInt8) (st i : Nat) : (bT s).extract st i = bT ((s.drop st).take (i - st)) := by
  apply ByteArray.ext
  apply Array.toList_inj.1
  rw [ByteArray.data_extract, Array.toList_extract]
  simp [bT, List.extract_eq_take_drop]
theorem bT_get (s : List UInt8) (i : Nat) (_ : i < s.length) (_ : i < (bT s).size) : (bT s)[i] = s[i] := rfl
set_option maxRecDepth 100000 in
set_option maxHeartbeats 4000000 in
theorem l01Split_any (s : List UInt8) (c : UInt8) (hs : s.length ≤ 1048576) (w : World) :
    Calls Tryz.prog 37 #[.string (bT s), .int .u8 c.toNat] w fun e w' => ∃ v, e = .returned v ∧ w'.ownsRow w.heap.size 9 1 v (spl c s).length (X64 (spl c s)) ∧ Below w.heap.size w w' := by
  have zs := bT_size s
  obtain ⟨bs, hbs⟩ : ∃ bs, bs = bT s := ⟨_, rfl⟩
  have hcut : ∀ st i, bs.extract st i = bT ((s.drop st).take (i - st)) := fun st i => by rw [hbs]; exact bT_cut s st i
  have hget : ∀ i (_ : i < s.length) (_ : i < bs.size), bs[i] = s[i] := fun i h h' => by subst hbs; exact bT_get s i h h'
  rw [← hbs] at zs ⊢
  have HC := Lib.hid hcut
  have HGT := Lib.hid hget
  clear hbs hcut hget
  go_enter Tryz.func37, Tryz.ntmps37
  have HO0 := Lib.hid (World.ownsRow_lit (base := w.heap.size) (e := 9) (size := 1) w #[] 0 (Nat.le_refl _) (by decide) rfl)
  go_wp2_with fail
  go_loopw [5, 6, 7] (fun a5 a6 a7 wr => ∃ (i st : Nat) (L : List (List UInt8)), i ≤ s.length ∧ a7 = .int .i64 (i : Int) ∧ a6 = .int .i64 (st : Int) ∧ wr.ownsRow w.heap.size 9 1 a5 L.length (X64 L) ∧ Hid (SplAt c s L st i) ∧ Hid (Below w.heap.size w wr)) (fun _ _ a _ => s.length - (intOf a).toNat)
  case atStart => exact ⟨0, 0, [], by omega, by go_num, by go_num, HO0.out, SplAt.zero c s, Lib.hid (by go_grown)⟩
  case round =>
    obtain ⟨i, st, L, hi, rfl, rfl, hown, hS, hB⟩ := hrel
    obtain ⟨wi, rfl⟩ : ∃ y : World, y = wr := ⟨_, rfl⟩
    have HO := Lib.hid hown
    have hle := hS.out.le
    have hll : L.length ≤ 134217728 := by have := hS.out.len; have := spl_len c s; omega
    have zw := hB.out.size
    obtain ⟨A3, c3, rfl⟩ := own_form hown
    clear hown
    by_cases hlt : i < s.length
    · have i1 : (i : Int) < (bs.size : Int) := by omega
      have i2 : i < bs.size := by omega
      have i3 : (st : Int) ≤ (i : Int) := by omega
      have i4 : (i : Int) ≤ (bs.size : Int) := by omega
      have hg := HGT.out i hlt i2
      by_cases he : s[i] = c
      · have HN := Lib.hid (hS.out.hit hlt he)
        have hx := HC.out st i
        obtain ⟨y, hy⟩ : ∃ y, y = (s.drop st).take (i - st) := ⟨_, rfl⟩
        rw [← hy] at hx HN
        have hb : bs[i] = c := hg.trans he
        clear hg he hy
        go_wp2_with (at_builtin; refine wpList_appX rfl _ _ rfl w.heap.size _ L rfl HO.out y wi.heap.size rfl rfl hll zw ?_; intro v6 w6 ho6 hb6 hg6; have HO6 := Lib.hid ho6; have HB6 := Lib.hid hb6; clear ho6 hb6 hg6)
        exact ⟨⟨i + 1, i + 1, L ++ [y], by omega, by go_num, by go_num, HO6.out, HN, Lib.hid (hB.out.trans HB6.out)⟩, by simp [intOf]; omega⟩
      · have HN := Lib.hid (hS.out.miss hlt he)
        have hb : ¬ (bs[i].toNat : Int) = (c.toNat : Int) := fun e => he (by rw [← hg]; exact UInt8.toNat_inj.1 (by omega))
        clear hg he
        go_wp2_with fail
        exact ⟨⟨i + 1, st, L, by omega, by go_num, rfl, HO.out, HN, hB⟩, by simp [intOf]; omega⟩
    · obtain rfl : i = s.length := by omega
      have HN := Lib.hid hS.out.last
      have hx := HC.out st s.length
      have e1 : (s.drop st).take (s.length - st) = s.drop st := List.take_of_length_le (by simp)
      rw [e1] at hx
      have i1 : ¬ (s.length : Int) < (bs.size : Int) := by omega
      have i3 : (st : Int) ≤ (bs.size : Int) := by omega
      obtain ⟨y, hy⟩ : ∃ y, y = s.drop st := ⟨_, rfl⟩
      rw [← hy] at hx HN
      clear hy e1
      go_wp2_with (at_builtin; refine wpList_appX rfl _ _ rfl w.heap.size _ L rfl HO.out y wi.heap.size rfl rfl hll zw ?_; intro v6 w6 ho6 hb6 hg6; have HO6 := Lib.hid ho6; have HB6 := Lib.hid hb6; clear ho6 hb6 hg6)
      go_ret
      exact ⟨_, rfl, by rw [HN.out]; exact HO6.out, hB.out.trans HB6.out⟩
end Go.Proofs.YtgaohmbgjjhdbaaGreatDoor
