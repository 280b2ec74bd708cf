/- Chimes: barrels read out of texts, the program's reader and the reference's side by side. -/
import Derived.Test.YtgaohmbgjjhdbaaGreatDoorRdS
namespace Go.Proofs.YtgaohmbgjjhdbaaGreatDoor
open Go.RowKit

theorem RdOk.le {s : List UInt8} {S : Nat} {m : Int} {ps : List (Int × Int)} {ok : Bool} (h : RdOk s S m ps ok) : ps.length ≤ 1000 := by
  rcases h with ⟨_, h, _⟩ | ⟨_, _, _, rfl, _⟩
  · obtain ⟨_, _, h3, _⟩ := brB_iff.1 h
    omega
  · simp
/-- What both readers answer. -/
theorem rd_one (s : List UInt8) : ∃ (S : Nat) (m : Int) (ps : List (Int × Int)) (ok : Bool), RdOk s S m ps ok := by
  by_cases h : ∃ S M ps, Can S M ps s
  · obtain ⟨S, M, ps, h1, h2⟩ := h
    exact ⟨S, M, ps, true, Or.inl ⟨rfl, h1, h2⟩⟩
  · exact ⟨0, 0, [], false, Or.inr ⟨rfl, rfl, rfl, rfl, fun S M ps hc => h ⟨S, M, ps, hc⟩⟩⟩
theorem rd_as {s : List UInt8} {S : Nat} {m : Int} {ps : List (Int × Int)} {ok : Bool} (h : RdOk s S m ps ok) {f : FuncId} {w : World} (hc : Calls Tryz.prog f #[.string (bT s)] w (RdPost s w)) :
    Calls Tryz.prog f #[.string (bT s)] w fun e w' => ∃ v', e = .returned (.tuple #[.agg #[.int .i64 (S : Int), .int .i64 m, v'], .bool ok]) ∧ w'.ownsRow w.heap.size 49 2 v' ps.length (P64 ps) ∧ Below w.heap.size w w' := by
  refine hc.mono ?_
  rintro e w' ⟨v, S', m', ps', ok', rfl, ho, hb, hr⟩
  obtain ⟨rfl, rfl, rfl, rfl⟩ := h.same hr
  exact ⟨v, rfl, ho, hb⟩
theorem ReadBarrel_any (s : List UInt8) (hs : s.length ≤ 1048576) : ∃ (S : Nat) (m : Int) (ps : List (Int × Int)) (ok : Bool), RdOk s S m ps ok ∧
    (∀ w, GX w → Calls Tryz.prog 9 #[.string (bT s)] w fun e w' => ∃ v', e = .returned (.tuple #[.agg #[.int .i64 (S : Int), .int .i64 m, v'], .bool ok]) ∧ w'.ownsRow w.heap.size 49 2 v' ps.length (P64 ps) ∧ Below w.heap.size w w') ∧
    (∀ w, GX w → Calls Tryz.prog 11 #[.string (bT s)] w fun e w' => ∃ v', e = .returned (.tuple #[.agg #[.int .i64 (S : Int), .int .i64 m, v'], .bool ok]) ∧ w'.ownsRow w.heap.size 49 2 v' ps.length (P64 ps) ∧ Below w.heap.size w w') := by
  obtain ⟨S, m, ps, ok, h⟩ := rd_one s
  exact ⟨S, m, ps, ok, h, fun w hg => rd_as h (ReadBarrel_i s hs w hg), fun w _ => rd_as h (ReadBarrel_s s hs w)⟩
theorem bT_back (s : ByteArray) : bT s.data.toList = s := rfl
theorem ReadBarrel_both (s : ByteArray) (hs : s.size ≤ 1048576) : ∃ (ra rb : Int) (rl : List (Int × Int)) (rd : Bool), rl.length ≤ 1000 ∧
    (∀ w, GX w → Calls Tryz.prog 9 #[.string s] w fun e w' => ∃ v', e = .returned (.tuple #[.agg #[.int .i64 ra, .int .i64 rb, v'], .bool rd]) ∧ w'.ownsRow w.heap.size 49 2 v' rl.length (P64 rl) ∧ Below w.heap.size w w') ∧
    (∀ w, GX w → Calls Tryz.prog 11 #[.string s] w fun e w' => ∃ v', e = .returned (.tuple #[.agg #[.int .i64 ra, .int .i64 rb, v'], .bool rd]) ∧ w'.ownsRow w.heap.size 49 2 v' rl.length (P64 rl) ∧ Below w.heap.size w w') := by
  obtain ⟨S, m, ps, ok, h, h1, h2⟩ := ReadBarrel_any s.data.toList (by simpa using hs)
  exact ⟨S, m, ps, ok, h.le, h1, h2⟩
end Go.Proofs.YtgaohmbgjjhdbaaGreatDoor
