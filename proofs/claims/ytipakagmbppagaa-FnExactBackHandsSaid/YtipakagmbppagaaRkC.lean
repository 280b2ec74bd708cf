/- What a law over a rack and a state knows of its world while it runs: its arguments' boxes, the rack's slice, and that nothing old has turned. -/
import Derived.Test.YtipakagmbppagaaRkQ
import Derived.Test.YtipakagmbppagaaRowF
namespace Go.Proofs.Ytipakagmbppagaa
open Go.RowKit

/-- A law over a rack. -/
def CtxR (W : World) (v : Value) (ds : List Int) (wn : Int) (w : World) : Prop :=
  Blk w W.heap.size 24 #[v, .int .i64 wn] ∧ Sl W v ds ∧ Below W.heap.size W w
/-- A law over a rack and a state. -/
def CtxS (W : World) (v : Value) (ds : List Int) (wn m rd : Int) (w : World) : Prop :=
  CtxR W v ds wn w ∧ Blk w (W.heap.size + 1) 43 #[.int .i64 m, .int .i64 rd]
/-- A copy of the rack in a variable of its own. -/
def CpyR (g : Nat) (A : Option Addr) (c : Nat) (ds : List Int) (wn : Int) (w : World) : Prop :=
  Blk w g 27 #[.slice A ds.length c, .int .i64 wn] ∧ Sl w (.slice A ds.length c) ds

section
variable {W w w' : World} {v : Value} {ds : List Int} {wn m rd : Int} {g : Nat} {A : Option Addr} {c : Nat}
theorem CtxR.step (h : CtxR W v ds wn w) (hb : Below w.heap.size w w') : CtxR W v ds wn w' := ⟨h.1.below hb, h.2.1, h.2.2.trans (hb.mono h.2.2.size)⟩
theorem CtxR.sl (h : CtxR W v ds wn w) : Sl w v ds := h.2.1.below h.2.2
theorem CtxR.set_ (h : CtxR W v ds wn w) {p : Addr} (hp : W.heap.size < p.block) (u : Value) : CtxR W v ds wn (w.setCell p u) := ⟨h.1.far (by omega) u, h.2.1, h.2.2.setCell (by omega) u⟩
theorem CtxR.old (h : CtxR W v ds wn w) : Below W.heap.size W w := h.2.2
theorem CtxR.drew (h : CtxR W v ds wn w) : CtxR W v ds wn w.drew := ⟨h.1, h.2.1, h.2.2.drew⟩
theorem CtxR.c0 (h : CtxR W v ds wn w) : w.cell? ⟨W.heap.size, 0, none⟩ = some v := h.1.cell 0 rfl
theorem CtxR.c1 (h : CtxR W v ds wn w) : w.cell? ⟨W.heap.size, 1, none⟩ = some (.int .i64 wn) := h.1.cell 1 rfl
theorem CtxR.lt (h : CtxR W v ds wn w) : W.heap.size < w.heap.size := h.1.lt
theorem CtxR.new (hv : Sl W v ds) : CtxR W v ds wn (W.alloc (.cells #[v, .int .i64 wn] 24)) := ⟨Blk.new _ _ _, hv, (Below.refl _ _).alloc (Nat.le_refl _) _⟩
theorem CtxS.step (h : CtxS W v ds wn m rd w) (hb : Below w.heap.size w w') : CtxS W v ds wn m rd w' := ⟨h.1.step hb, h.2.below hb⟩
theorem CtxS.later (h : CtxS W v ds wn m rd w) (hb : Below w.heap.size w w') : CtxS W v ds wn m rd w' := h.step hb
theorem CtxS.drew (h : CtxS W v ds wn m rd w) : CtxS W v ds wn m rd w.drew := ⟨h.1.drew, h.2⟩
theorem CtxS.sl (h : CtxS W v ds wn m rd w) : Sl w v ds := h.1.sl
theorem CtxS.set_ (h : CtxS W v ds wn m rd w) {p : Addr} (hp : W.heap.size + 1 < p.block) (u : Value) : CtxS W v ds wn m rd (w.setCell p u) := ⟨h.1.set_ (by omega) u, h.2.far (by omega) u⟩
theorem CtxS.c0 (h : CtxS W v ds wn m rd w) : w.cell? ⟨W.heap.size, 0, none⟩ = some v := h.1.c0
theorem CtxS.c1 (h : CtxS W v ds wn m rd w) : w.cell? ⟨W.heap.size, 1, none⟩ = some (.int .i64 wn) := h.1.c1
theorem CtxS.all (h : CtxS W v ds wn m rd w) : w.cell? ⟨W.heap.size, 0, none⟩ = some v ∧ w.cell? ⟨W.heap.size, 1, none⟩ = some (.int .i64 wn) ∧ w.cell? ⟨W.heap.size + 1, 0, none⟩ = some (.int .i64 m) ∧ w.cell? ⟨W.heap.size + 1, 1, none⟩ = some (.int .i64 rd) := ⟨h.1.c0, h.1.c1, h.2.cell 0 rfl, h.2.cell 1 rfl⟩
theorem CtxS.old (h : CtxS W v ds wn m rd w) : Below W.heap.size W w := h.1.2.2
theorem CtxS.c2 (h : CtxS W v ds wn m rd w) : w.cell? ⟨W.heap.size + 1, 0, none⟩ = some (.int .i64 m) := h.2.cell 0 rfl
theorem CtxS.c3 (h : CtxS W v ds wn m rd w) : w.cell? ⟨W.heap.size + 1, 1, none⟩ = some (.int .i64 rd) := h.2.cell 1 rfl
theorem CtxS.lt (h : CtxS W v ds wn m rd w) : W.heap.size + 1 < w.heap.size := h.2.lt
theorem CtxS.new (hv : Sl W v ds) : CtxS W v ds wn m rd ((W.alloc (.cells #[v, .int .i64 wn] 24)).alloc (.cells #[.int .i64 m, .int .i64 rd] 43)) := by
  refine ⟨(CtxR.new hv).step ((Below.refl _ _).alloc (Nat.le_refl _) _), ?_⟩
  have := Blk.new (W.alloc (.cells #[v, .int .i64 wn] 24)) 43 #[.int .i64 m, .int .i64 rd]
  simpa only [World.size_alloc] using this
theorem CpyR.step (h : CpyR g A c ds wn w) (hb : Below w.heap.size w w') : CpyR g A c ds wn w' := ⟨h.1.below hb, h.2.below hb⟩
theorem CpyR.drew (h : CpyR g A c ds wn w) : CpyR g A c ds wn w.drew := h
theorem CpyR.c0 (h : CpyR g A c ds wn w) : w.cell? ⟨g, 0, none⟩ = some (.slice A ds.length c) := h.1.cell 0 rfl
theorem CpyR.c1 (h : CpyR g A c ds wn w) : w.cell? ⟨g, 1, none⟩ = some (.int .i64 wn) := h.1.cell 1 rfl
theorem CpyR.lt (h : CpyR g A c ds wn w) : g < w.heap.size := h.1.lt
theorem CpyR.new (hs : Sl w (.slice A ds.length c) ds) : CpyR w.heap.size A c ds wn (w.alloc (.cells #[.slice A ds.length c, .int .i64 wn] 27)) := ⟨Blk.new _ _ _, hs.alloc _⟩

theorem SState.all (h : CtxS W v ds wn m rd w) (k : CpyR g A c ds wn w) :
    w.cell? ⟨W.heap.size + 1, 0, none⟩ = some (.int .i64 m) ∧ w.cell? ⟨W.heap.size + 1, 1, none⟩ = some (.int .i64 rd) ∧ w.cell? ⟨g, 0, none⟩ = some (.slice A ds.length c) ∧ w.cell? ⟨g, 1, none⟩ = some (.int .i64 wn) := ⟨h.c2, h.c3, k.c0, k.c1⟩
/-- For a region's 'S'. -/
def SRack (W : World) (v : Value) (ds : List Int) (wn : Int) (g : Nat) (A : Option Addr) (c : Nat) (w : World) : Prop := CtxR W v ds wn w ∧ CpyR g A c ds wn w
theorem SRack.all (h : CtxR W v ds wn w) (k : CpyR g A c ds wn w) :
    w.cell? ⟨W.heap.size, 0, none⟩ = some v ∧ w.cell? ⟨W.heap.size, 1, none⟩ = some (.int .i64 wn) ∧ w.cell? ⟨g, 0, none⟩ = some (.slice A ds.length c) ∧ w.cell? ⟨g, 1, none⟩ = some (.int .i64 wn) := ⟨h.c0, h.c1, k.c0, k.c1⟩
end
end Go.Proofs.Ytipakagmbppagaa
