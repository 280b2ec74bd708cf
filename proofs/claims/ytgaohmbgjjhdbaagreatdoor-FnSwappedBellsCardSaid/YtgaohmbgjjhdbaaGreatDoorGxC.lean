/- What my walks want of a row's first world (GX), out of its shape and of what is laid. -/
import Derived.Test.YtgaohmbgjjhdbaaGreatDoorTtG
import Derived.Test.YtgaohmbgjjhdbaaGreatDoorRows
import Derived.Test.YtgaohmbgjjhdbaaGreatDoorChecked
import Derived.Shelf.Vars
import Derived.Stop.LaidErr
import Derived.Lib.LaidTab
import Derived.MakeChecks
namespace Go.Proofs.YtgaohmbgjjhdbaaGreatDoor
open Go.RowKit

theorem iface_cell {P : Program} {n nm : String} {d : DataW Unit} {r : List (String × DataW Unit)} {W : World} {g : Nat} {ti : TypeId} {ms : Array (String × TypeId)}
    (h : laidMet P ((n, .iface nm d) :: r) W) (hg : P.globalNamed n = some g) (ht : (P.globals[g]?).map (·.type) = some ti) (hi : P.underlying ti = some (.interface ms)) : ∃ u v, W.cell? ⟨g, 0, none⟩ = some (.iface u v) := by
  obtain ⟨ps, ⟨g0, t0, cs0, f0, p0, q0, hg0, ht0, hv0, hd0, _, e0⟩, _, hrows⟩ := h
  obtain rfl := Option.some.inj (hg.symm.trans hg0)
  obtain rfl := Option.some.inj (ht.symm.trans ht0)
  obtain ⟨l0⟩ := cs0
  obtain ⟨_, u, v, e, _⟩ := iface_of_trod hi hd0
  simp only at e
  subst e
  exact ⟨u, v, by simpa using World.var?_cell hg0 hv0 0⟩
theorem gx_of {W : World} (hs : W.ShapedOpen Tryz.prog) (hl : laidMetH Tryz.prog [("math/bits.deBruijn32tab", Rows.laid_math_bits_deBruijn32tab), ("math/bits.deBruijn64tab", Rows.laid_math_bits_deBruijn64tab), ("internal/strconv.uint64pow10", Rows.laid_internal_strconv_uint64pow10), ("unicode/utf8.acceptRanges", Rows.laid_unicode_utf8_acceptRanges), ("strconv.ErrRange", Rows.laid_strconv_ErrRange), ("strconv.ErrSyntax", Rows.laid_strconv_ErrSyntax), ("unicode/utf8.first", Rows.laid_unicode_utf8_first)] W) : GX W := by
  rw [MakeChecks.laidMetH_plain _ _ _ (by kernel_rfl)] at hl
  have h2 := hl.tail.tail
  have h4 := h2.tail.tail
  have h5 := h4.tail
  refine { mx := ?_, es := ?_, er := ?_, tb := ?_ }
  · exact cell_of_shapedOpen_int hs (g := 0) (t := 3) (zero := #[.int .i64 0]) (of_decide_eq_true (by kernel_rfl)) (by kernel_rfl) rfl (by kernel_rfl) (by kernel_rfl) Tryz.underlying3
  · exact iface_cell h5 (g := 2) (ti := 82) (by kernel_rfl) (by kernel_rfl) Tryz.underlying82
  · exact iface_cell h4 (g := 3) (ti := 82) (by kernel_rfl) (by kernel_rfl) Tryz.underlying82
  · exact Lib.tabIs_of_head (zs := Lib.pow10Tab) (g := 1) (t := 149) (e := 66) (n := 20) (by kernel_rfl) (by kernel_rfl) Tryz.underlying149 Tryz.underlying66 (by kernel_rfl) (by kernel_rfl) h2
end Go.Proofs.YtgaohmbgjjhdbaaGreatDoor
