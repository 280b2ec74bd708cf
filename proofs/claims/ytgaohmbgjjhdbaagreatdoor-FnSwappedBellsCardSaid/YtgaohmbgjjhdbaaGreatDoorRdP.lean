/- Chimes: barrels read out of texts: words, plain and on memory. -/
import Derived.Test.YtgaohmbgjjhdbaaGreatDoorTtH
import Derived.Test.YtgaohmbgjjhdbaaGreatDoorTtI
import Derived.Test.YtgaohmbgjjhdbaaGreatDoorTtC
import Derived.Lib.ConvBytes
namespace Go.Proofs.YtgaohmbgjjhdbaaGreatDoor
open Go.RowKit

/-- What a reader of barrels answers. -/
def RdOk (s : List UInt8) (S : Nat) (m : Int) (ps : List (Int × Int)) (ok : Bool) : Prop :=
  (ok = true ∧ brB (S : Int) m ps = true ∧ s = txL m ps S) ∨ (ok = false ∧ S = 0 ∧ m = 0 ∧ ps = [] ∧ ∀ S m ps, ¬ Can S m ps s)
def RdPost (s : List UInt8) (w : World) (e : Ending) (w' : World) : Prop :=
  ∃ (v : Value) (S : Nat) (m : Int) (ps : List (Int × Int)) (ok : Bool), e = .returned (.tuple #[.agg #[.int .i64 (S : Int), .int .i64 m, v], .bool ok]) ∧ w'.ownsRow w.heap.size 49 2 v ps.length (P64 ps) ∧ Below w.heap.size w w' ∧ RdOk s S m ps ok
theorem RdOk.can {s : List UInt8} {S : Nat} {m : Int} {ps : List (Int × Int)} (h : RdOk s S m ps true) : ∃ M : Nat, m = M ∧ Can S M ps s := by
  rcases h with ⟨_, h1, h2⟩ | ⟨h, _⟩
  · obtain ⟨_, ⟨l1, l2⟩, _⟩ := brB_iff.1 h1
    obtain ⟨M, rfl⟩ := Int.eq_ofNat_of_zero_le (show 0 ≤ m by omega)
    exact ⟨M, rfl, h1, h2⟩
  · cases h
/-- Two readers of the same text answer alike. -/
theorem RdOk.same {s : List UInt8} {S S' : Nat} {m m' : Int} {ps ps' : List (Int × Int)} {ok ok' : Bool} (h : RdOk s S m ps ok) (h' : RdOk s S' m' ps' ok') : S = S' ∧ m = m' ∧ ps = ps' ∧ ok = ok' := by
  cases ok with
  | true =>
    obtain ⟨M, rfl, hc⟩ := h.can
    cases ok' with
    | true =>
      obtain ⟨M', rfl, hc'⟩ := h'.can
      obtain ⟨e1, e2, e3⟩ := hc.inj hc'
      exact ⟨e1, by rw [e2], e3, rfl⟩
    | false =>
      rcases h' with ⟨h, _⟩ | ⟨_, _, _, _, hn⟩
      · cases h
      · exact absurd hc (hn _ _ _)
  | false =>
    rcases h with ⟨h, _⟩ | ⟨_, rfl, rfl, rfl, hn⟩
    · cases h
    · cases ok' with
      | true =>
        obtain ⟨M', rfl, hc'⟩ := h'.can
        exact absurd hc' (hn _ _ _)
      | false =>
        rcases h' with ⟨h, _⟩ | ⟨_, rfl, rfl, rfl, _⟩
        · cases h
        · exact ⟨rfl, rfl, rfl, rfl⟩
/-- How much a text's parts hold. -/
def lenTo (L : List (List UInt8)) (k : Nat) : Nat := ((L.take k).map List.length).sum
theorem lenTo_succ {L : List (List UInt8)} {k : Nat} (h : k < L.length) : lenTo L (k + 1) = lenTo L k + (L.getD k []).length := by
  rw [lenTo, List.take_succ_eq_append_getElem h, lenTo, List.map_append, List.sum_append]
  simp [List.getD, h]
theorem lenTo_le (L : List (List UInt8)) (k : Nat) : lenTo L k ≤ (L.map List.length).sum := by
  have h := congrArg (fun l => (l.map List.length).sum) (List.take_append_drop k L)
  simp only [List.map_append, List.sum_append] at h
  rw [lenTo]; omega
theorem spl_sum (c : UInt8) (s : List UInt8) : ((spl c s).map List.length).sum ≤ s.length := by
  induction s with
  | nil => simp [spl]
  | cons b l ih =>
    rw [spl]
    split
    · simp; omega
    · have := spl_ne c l
      cases h : spl c l with
      | nil => exact absurd h this
      | cons a r => rw [h] at ih; simp at ih ⊢; omega
theorem rdT_le {L : List (List UInt8)} : ∀ {k : Nat}, k ≤ L.length → (rdT L k).length ≤ lenTo L k
  | 0, _ => by simp [rdT]
  | k + 1, h => by
    have h1 := rdT_le (L := L) (k := k) (by omega)
    have h2 := rdS_len k (L.getD k [])
    rw [rdT_succ, lenTo_succ (by omega), List.length_append]
    omega
/-- The pins of the parts up to k, and of part k's first j letters. -/
def rdJ (L : List (List UInt8)) (k j : Nat) : List (Int × Int) := rdT L k ++ (rdS k (L.getD k [])).take j
theorem rdJ_zero (L : List (List UInt8)) (k : Nat) : rdJ L k 0 = rdT L k := by simp [rdJ]
theorem rdJ_end {L : List (List UInt8)} {k j : Nat} (h : j = (L.getD k []).length) : rdJ L k j = rdT L (k + 1) := by
  rw [rdJ, rdT_succ, List.take_of_length_le]
  rw [h]
  exact rdS_len k _
theorem rdJ_dash {L : List (List UInt8)} {k : Nat} (h : L.getD k [] = [45]) (j : Nat) : rdJ L k j = rdT L k := by
  rw [rdJ, rdS, if_pos h]; simp
theorem rdJ_succ {L : List (List UInt8)} {k j : Nat} (h : ¬ L.getD k [] = [45]) (hj : j < (L.getD k []).length) : rdJ L k (j + 1) = rdJ L k j ++ [((k : Int), (((L.getD k [])[j]).toNat : Int) - 97)] := by
  rw [rdJ, rdJ, rdS, if_neg h, List.append_assoc]
  congr 1
  rw [List.take_succ_eq_append_getElem (by simpa using hj)]
  simp
theorem rdJ_le {L : List (List UInt8)} {k j : Nat} (hk : k < L.length) : (rdJ L k j).length ≤ (L.map List.length).sum := by
  have h1 := rdT_le (L := L) (k := k) (by omega)
  have h2 := rdS_len k (L.getD k [])
  have h3 := lenTo_succ hk
  have h4 := lenTo_le L (k + 1)
  have h5 : ((rdS k (L.getD k [])).take j).length ≤ (rdS k (L.getD k [])).length := by simp; omega
  rw [rdJ, List.length_append]
  omega
theorem part_le {L : List (List UInt8)} {k : Nat} (hk : k < L.length) : (L.getD k []).length ≤ (L.map List.length).sum := by
  have h3 := lenTo_succ hk
  have h4 := lenTo_le L (k + 1)
  omega
/-- What a canonical text gives, read back. -/
theorem Can.read {S m : Nat} {ps : List (Int × Int)} {s : List UInt8} (h : Can S m ps s) : spl 58 s = [Lib.decDigits m, Lib.join (stsL ps S) [46]] ∧ Lib.cut s [58] = (Lib.decDigits m, Lib.join (stsL ps S) [46], true) ∧ (spl 46 (Lib.join (stsL ps S) [46])).length = S ∧ rdT (spl 46 (Lib.join (stsL ps S) [46])) S = ps ∧ 1 ≤ m ∧ m ≤ 8 := by
  obtain ⟨e1, e2, e3, e4⟩ := h.parts
  obtain ⟨_, ⟨l1, l2⟩, _⟩ := brB_iff.1 h.1
  refine ⟨e3, ?_, by rw [e4, stsL_length], by rw [e4]; exact rdT_st h.1, by omega, by omega⟩
  conv => lhs; rw [e1]
  exact cut_at 58 _ _ e2
/-- What is read is the text's barrel, or there is none. -/
theorem rd_ok {s a r : List UInt8} {m : Int} {ok0 : Bool} (hs : ∀ S M ps, Can S M ps s → a = Lib.decDigits M ∧ r = Lib.join (stsL ps S) [46]) (hm : NumOk a m ok0) :
    (∀ S M ps, Can S M ps s → ok0 = true ∧ S = (spl 46 r).length ∧ m = M ∧ ps = rdT (spl 46 r) (spl 46 r).length) := by
  intro S M ps hc
  obtain ⟨e1, e2⟩ := hs S M ps hc
  obtain ⟨_, _, e3, e4, l1, l2⟩ := hc.read
  obtain ⟨h1, h2⟩ := hm M l1 l2 e1
  rw [e2]
  exact ⟨h2, e3.symm, h1, by rw [e3]; exact e4.symm⟩
theorem rd_yes {s : List UInt8} {S : Nat} {m : Int} {ps : List (Int × Int)} (hb : brB (S : Int) m ps = true) (ht : bT (txL m ps S) = bT s) : RdOk s S m ps true := by
  refine Or.inl ⟨rfl, hb, ?_⟩
  have := congrArg ByteArray.data ht
  simpa [bT] using this.symm
theorem rd_no1 {s : List UInt8} {S : Nat} {m : Int} {ps : List (Int × Int)} {ok0 : Bool} (h : ∀ S' M ps', Can S' M ps' s → ok0 = true ∧ S' = S ∧ m = M ∧ ps' = ps) (hb : brB (S : Int) m ps = false) : RdOk s 0 0 [] false := by
  refine Or.inr ⟨rfl, rfl, rfl, rfl, fun S' M ps' hc => ?_⟩
  obtain ⟨_, rfl, rfl, rfl⟩ := h _ _ _ hc
  rw [hc.1] at hb; cases hb
theorem rd_no2 {s : List UInt8} {S : Nat} {m : Int} {ps : List (Int × Int)} {ok0 : Bool} (h : ∀ S' M ps', Can S' M ps' s → ok0 = true ∧ S' = S ∧ m = M ∧ ps' = ps) (ht : ¬ bT (txL m ps S) = bT s) : RdOk s 0 0 [] false := by
  refine Or.inr ⟨rfl, rfl, rfl, rfl, fun S' M ps' hc => ?_⟩
  obtain ⟨_, rfl, rfl, rfl⟩ := h _ _ _ hc
  exact ht (by rw [← hc.2])
theorem rd_no3 {s : List UInt8} {S : Nat} {m : Int} {ps : List (Int × Int)} (h : ∀ S' M ps', Can S' M ps' s → false = true ∧ S' = S ∧ m = M ∧ ps' = ps) : RdOk s 0 0 [] false := by
  refine Or.inr ⟨rfl, rfl, rfl, rfl, fun S' M ps' hc => ?_⟩
  cases (h _ _ _ hc).1

/-- What stands in a loop that reads a barrel's pins: the barrel's box b, its pins. -/
def RbAt (wq : World) (b : Nat) (st bl : Int) (vv : Value) (ps : List (Int × Int)) (wr : World) : Prop :=
  Blk wr b 26 #[.int .i64 st, .int .i64 bl, vv] ∧ wr.ownsRow wq.heap.size 49 2 vv ps.length (P64 ps) ∧ wq.grownBy wr (some b) ∧ b < wq.heap.size
section
variable {wq wr wz w4 : World} {b : Nat} {st bl : Int} {vv v' : Value} {ps : List (Int × Int)} {y : Int × Int}
theorem grown_setOwn {a c : World} {p : Addr} (h : a.grownBy c (some p.block)) (u : Value) : a.grownBy (c.setCell p u) (some p.block) :=
  ⟨h.os, h.tape, h.output, by simpa using h.size, fun i hi hn => (Below.heap_setCell c p u i (fun e => hn (by rw [e]))).trans (h.block i hi hn)⟩
theorem grown_low {a c d : World} {row : Option Nat} (h : a.grownBy c row) (hb : Below a.heap.size c d) : a.grownBy d row :=
  ⟨hb.os.trans h.os, hb.tape.trans h.tape, hb.output.trans h.output, Nat.le_trans h.size hb.size, fun i hi hn => (hb.block i hi).trans (h.block i hi hn)⟩
theorem RbAt.later (h : RbAt wq b st bl vv ps wr) (hb : Below wr.heap.size wr wz) : RbAt wq b st bl vv ps wz :=
  ⟨h.1.below hb, own_below h.2.1 hb, grown_trans h.2.2.1 (grown_of_below hb _), h.2.2.2⟩
theorem RbAt.app (h : RbAt wq b st bl vv ps wr) (ho' : w4.ownsRow wq.heap.size 49 2 v' (ps ++ [y]).length (P64 (ps ++ [y]))) (hb : Below wq.heap.size wr w4) :
    ∃ ps' A C, ps' = ps ++ [y] ∧ v' = .slice A ps'.length C ∧ Blk w4 b 26 #[.int .i64 st, .int .i64 bl, vv] ∧ RbAt wq b st bl (.slice A ps'.length C) ps' (w4.setCell ⟨b, 2, none⟩ (.slice A ps'.length C)) := by
  obtain ⟨b1, ho, hG, hlt⟩ := h
  obtain ⟨A, C, rfl⟩ := own_form ho'
  have e1 := b1.belowB hb hlt
  exact ⟨ps ++ [y], A, C, rfl, rfl, e1, e1.set_ 2 _, own_setCell ho' hlt _, grown_setOwn (p := ⟨b, 2, none⟩) (grown_low hG hb) _, hlt⟩
end
/-- A text turned into bytes: a new block. -/
theorem conv_str (x : List UInt8) (w : World) : ∃ (c : Nat) (w' : World), (convert 9 22 (.string (bT x))).run Tryz.prog w = .ok (.slice (some ⟨w.heap.size, 0, none⟩) x.length c) w' ∧ w.heap.size < w'.heap.size ∧ Below w.heap.size w w' ∧ ∀ j (hj : j < x.length), w'.cell? ⟨w.heap.size, j, none⟩ = some (.int .u8 (x[j].toNat : Int)) := by
  have h := Lib.run_convert_string_bytes (P := Tryz.prog) w 9 22 5 (bT x) Tryz.underlying9 Tryz.underlying22 Tryz.underlying5
  refine ⟨_, _, (bT_size x) ▸ h, by rw [Lib.bytesWorld_size]; omega, Lib.bytesWorld_below _ _ _, fun j hj => ?_⟩
  rw [Lib.bytesWorld_cell _ _ _ _ (by rw [bT_size]; exact hj)]
  simp [bT, List.getD, hj]
theorem X64_get {L : List (List UInt8)} {k : Nat} (h : k < L.length) : (X64 L)[k]? = some (.string (bT (L.getD k []))) := by
  simp [X64, List.getD, h]
theorem cut_len (s : List UInt8) (c : UInt8) : (Lib.cut s [c]).1.length ≤ s.length ∧ (Lib.cut s [c]).2.1.length ≤ s.length := by
  rw [Lib.cut]
  split
  · refine ⟨?_, ?_⟩ <;> simp <;> omega
  · simp
end Go.Proofs.YtgaohmbgjjhdbaaGreatDoor
