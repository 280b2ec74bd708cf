/- Count wheels: what HourWheel, l20Draw draw: some wheel with a gap. -/
import Derived.Test.YtfddibdncniekaaDoorDr
import Derived.Test.YtfddibdncniekaaDoorWhV
import Derived.Deep.RegionHeld3
import Derived.Deep.DeepCutAuto
namespace Go.Proofs.YtfddibdncniekaaDoor
open Go.RowKit
attribute [local go_sem ↓] Go.wp_at_zero Go.wp_at_succ

section
variable {P : Program} {w : World} {ops : Array Oper} {o : Oper} {a : Act} {K : Act → World → Prop} {Q : Exit → Act → World → Prop} {E : Prop}
/-- A call of two arguments by its contract, in a region that draws its order. -/
theorem step_call2x (hgd : o.guard = none) (F : FuncId) (s x : Operand) (t1 t2 : TypeId) (ho : o.op = .call { callee := .value (.func F), args := #[s, x], argTypes := #[t1, t2] }) (v1 v2 : Value) (hs : a.eval s = v1) (hx : a.eval x = v2)
    (fn : Func) (hF : P.funcs[F]? = some fn) (hN : (fn.name == "runtime.NumGoroutine") = false) (hB : fn.body.isNone = false) (R : Ending → World → Prop) (hc : Calls P F #[v1, v2] w R) (hK : ∀ e w', R e w' → ∃ v, e = .returned v ∧ K (a.put o.dst v) w') :
    if Region.wanted o (yielded ops a.tmps) = true then Oper.wp P o a w K Q else E := by
  have hw : Region.wanted o (yielded ops a.tmps) = true := by simp [Region.wanted, hgd]
  rw [if_pos hw]
  unfold Oper.wp execOp
  have hf : a.eval (.func F) = .func (.func F) #[] #[] := rfl
  simp only [ho, resolve, invoke, Sem.run_bind, List.map_toArray, List.map_cons, List.map_nil, hs, hx, hf]
  unfold Deferred.ofValue callFunc
  have hp : Sem.run P program w = .ok P w := rfl
  simp only [Sem.run_bind, Sem.run_pure, Result.andThen_ok, hp, hF, hN, hB, Bool.false_eq_true, if_false]
  refine hc.mono ?_
  intro e w' h
  obtain ⟨v, rfl, hk⟩ := hK e w' h
  exact hk
end
theorem grown_new' {a b c : World} {row row2 : Option Nat} (h : a.grownBy b row) (k : b.grownBy c row2) (hr : ∀ j, row2 = some j → a.heap.size ≤ j) : a.grownBy c row :=
  ⟨k.os.trans h.os, k.tape.trans h.tape, k.output.trans h.output, Nat.le_trans h.size k.size, fun i hi hn => (k.block i (Nat.lt_of_lt_of_le hi h.size) (fun e => by have := hr i e.symm; omega)).trans (h.block i hi hn)⟩
theorem grown_set' {a b : World} {row : Option Nat} (h : a.grownBy b row) {p : Addr} (hp : a.heap.size ≤ p.block) (u : Value) : a.grownBy (b.setCell p u) row :=
  ⟨h.os, h.tape, h.output, by simpa using h.size, fun i hi hn => (Below.heap_setCell b p u i (by omega)).trans (h.block i hi hn)⟩
theorem Src.set' {W w : World} {g n : Nat} {v : Value} {bs : List Int} (h : Src W w g v bs n) {p : Addr} (hp : W.heap.size ≤ p.block) (hn : g ≠ p.block) (u : Value) : Src W (w.setCell p u) g v bs n := by
  obtain ⟨h1, h2, h3, a, s, ha, hs, hb⟩ := h
  exact ⟨h1, h2, h3.setCell hp u, a, s, ha, hs, hb.far hn u⟩

/-- The wheel that HourWheel builds, behind k hours. -/
def HwAt (w : World) (vv : Value) (gs : List Int) (wr : World) : Prop :=
  Blk wr w.heap.size 31 #[.slice none 0 0] ∧ Blk wr (w.heap.size + 1) 31 #[vv] ∧ wr.ownsRow (w.heap.size + 1 + 1) 2 1 vv gs.length (I64 gs) ∧ Below w.heap.size w wr
theorem HwAt.app {w wr w4 : World} {vv v' : Value} {gs : List Int} {y : Int} (h : HwAt w vv gs wr) (ho' : w4.ownsRow (w.heap.size + 1 + 1) 2 1 v' (gs ++ [y]).length (I64 (gs ++ [y]))) (hb : Below (w.heap.size + 1 + 1) wr w4) :
    ∃ gs' A C, gs'.length = gs.length + 1 ∧ v' = .slice A gs'.length C ∧ Blk w4 (w.heap.size + 1) 31 #[vv] ∧ HwAt w (.slice A gs'.length C) gs' (w4.setCell ⟨w.heap.size + 1, 0, none⟩ (.slice A gs'.length C)) := by
  obtain ⟨b0, b1, ho, hB⟩ := h
  obtain ⟨A, C, rfl⟩ := own_form ho'
  have e1 := b1.belowB hb (by omega)
  exact ⟨gs ++ [y], A, C, by simp, rfl, e1, (b0.belowB hb (by omega)).far (by simp) _, e1.set_ 0 _, own_setCell ho' (by simp) _, (hB.trans (hb.mono (by omega))).setCell (by simp) _⟩
set_option maxRecDepth 100000 in
set_option maxHeartbeats 4000000 in
theorem HourWheel_draw (b : Bool) (w : World) :
    Calls Tryd.prog 88 #[.bool b] w fun e w' => ∃ (v : Value) (gs : List Int), e = .returned (.agg #[v]) ∧ w'.ownsRow w.heap.size 2 1 v gs.length (I64 gs) ∧ (12 ≤ gs.length ∧ gs.length ≤ 24) ∧ Below w.heap.size w w' := by
  go_enter Tryd.func88, Tryd.ntmps88
  have HK := Lib.hid (bx2 w 31 31 #[.slice none 0 0] #[.slice none 0 0])
  go_wp2_with fail
  go_loopw [4] (fun i wr => ∃ (k : Nat) (vv : Value) (gs : List Int), k ≤ 12 ∧ i = .int .i64 ((k : Int) + 1) ∧ (k ≤ gs.length ∧ gs.length ≤ 2 * k) ∧ HwAt w vv gs wr) (fun i _ => 13 - (intOf i).toNat)
  case atStart => exact ⟨0, _, [], by omega, rfl, ⟨by simp, by simp⟩, HK.out.1, HK.out.2, World.ownsRow_nil _ _ _ _, by go_grown⟩
  case round =>
    obtain ⟨k, vv, gs, hk, rfl, ⟨l1, l2⟩, hh⟩ := hrel
    by_cases hlt : k < 12
    · have i1 : (k : Int) + 1 ≤ 12 := by omega
      have q0 := hh.2.1.cell 0 rfl
      have f0 := hh.2.1.frozen 0
      have z0 := hh.2.1.lt
      have HO := Lib.hid hh.2.2.1
      have HH := Lib.hid hh
      have hll : gs.length ≤ 134217728 := by omega
      have hz : w.heap.size + 1 + 1 ≤ wr.heap.size := by omega
      clear hh
      cases b with
      | false =>
        go_wp2_with (at_builtin; refine wpList_app1g rfl _ _ rfl (w.heap.size + 1 + 1) _ gs rfl HO.out _ wr.heap.size rfl rfl hll hz ?_; intro v' w4 hown' hb' hg'; obtain ⟨gs', A4, C4, g1, rfl, e0, e1⟩ := HH.out.app hown' hb'; have f1 := e0.frozen 0; have q2 := e0.cell 0 rfl; have z4 := e0.lt; have E1 := Lib.hid e1; have HG1 := Lib.hid g1; clear hown' hb' hg' e0 e1 g1)
        go_roundw
        case rel => exact ⟨k + 1, _, _, by omega, by go_num, ⟨by have := HG1.out; omega, by have := HG1.out; omega⟩, E1.out⟩
        case measure => simp [intOf]; omega
      | true =>
        go_wp2_with (first
          | (at_builtin; refine wpList_app1g rfl _ _ rfl (w.heap.size + 1 + 1) _ gs rfl HO.out _ wr.heap.size rfl rfl hll hz ?_; intro v' w4 hown' hb' hg'; obtain ⟨gs', A4, C4, g1, rfl, e0, e1⟩ := HH.out.app hown' hb'; have f1 := e0.frozen 0; have q2 := e0.cell 0 rfl; have z4 := e0.lt; have E1 := Lib.hid e1; have HG1 := Lib.hid g1; have hll' : gs'.length ≤ 134217728 := (by omega); clear hown' hb' hg' e0 e1 g1)
          | (at_builtin; refine wpList_app1g rfl _ _ rfl (w.heap.size + 1 + 1) _ gs' rfl E1.out.2.2.1 _ w4.heap.size rfl (by simp) hll' (by simp; omega) ?_; intro v' w5 hown' hb' hg'; obtain ⟨gs2, A5, C5, g2, rfl, e0, e1⟩ := E1.out.app hown' hb'; have f3 := e0.frozen 0; have q3 := e0.cell 0 rfl; have z5 := e0.lt; have E2 := Lib.hid e1; have HG2 := Lib.hid g2; clear hown' hb' hg' e0 e1 g2))
        go_roundw
        case rel => exact ⟨k + 1, _, _, by omega, by go_num, ⟨by have := HG1.out; have := HG2.out; omega, by have := HG1.out; have := HG2.out; omega⟩, E2.out⟩
        case measure => simp [intOf]; omega
    · obtain rfl : k = 12 := by omega
      have q0 := hh.2.1.cell 0 rfl
      have z0 := hh.2.1.lt
      have r0 := hh.1.cell 0 rfl
      have rf0 := hh.1.frozen 0
      obtain ⟨A, C, rfl⟩ := own_form hh.2.2.1
      have HH := Lib.hid hh
      clear hh
      go_wp2
      try simp only [Exit.inBlock, Exit.then]
      refine bodyPost_ret (v := .agg #[.slice A gs.length C]) ?_ rfl ?_
      · simp [results, Tryd.results88, go_sem, r0]
      · exact ⟨_, gs, rfl, own_mono (own_setCell HH.out.2.2.1 (by simp; omega) _) (by omega), ⟨by omega, by omega⟩, HH.out.2.2.2.setCell (by simp) _⟩
end Go.Proofs.YtfddibdncniekaaDoor
