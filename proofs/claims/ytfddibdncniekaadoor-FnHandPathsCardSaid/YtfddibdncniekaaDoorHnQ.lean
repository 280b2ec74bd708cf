/- Hands: HandsBetween, PathToRight and PathToWrong in the program and in the reference. (Written by gen_hnq.py.) -/
import Derived.Test.YtfddibdncniekaaDoorHnP
import Derived.Test.YtfddibdncniekaaDoorHnZ
namespace Go.Proofs.YtfddibdncniekaaDoor
open Go.RowKit
attribute [local go_sem ↓] Go.wp_at_zero Go.wp_at_succ

def hbR (gs : List Int) (h q t u : Int) (s : ByteArray) : ByteArray × Int := if hnB gs h q = true ∧ hnB gs t u = true then wtR (sameP (t, u)) gs h q s else (⟨#[]⟩, 1)
def ptR (r : Bool) (gs : List Int) (h q : Int) (s : ByteArray) : ByteArray × Int := if hnB gs h q = true then wtR (fun x => rgB gs x.1 x.2 == r) gs h q s else (⟨#[]⟩, 1)
theorem rg_true (gs : List Int) : (fun x : Int × Int => rgB gs x.1 x.2 == true) = fun x => rgB gs x.1 x.2 := funext fun x => by cases rgB gs x.1 x.2 <;> rfl
theorem rg_false (gs : List Int) : (fun x : Int × Int => rgB gs x.1 x.2 == false) = fun x => !rgB gs x.1 x.2 := funext fun x => by cases rgB gs x.1 x.2 <;> rfl
theorem wtR_size {P : Int × Int → Bool} {gs : List Int} {h q : Int} {s : ByteArray} (hs : hnB gs h q = true) : (wtR P gs h q s).1.size ≤ 288 := by
  obtain ⟨hw, hx⟩ := hnB_iff.1 hs
  obtain ⟨-, h1, h24⟩ := whB_iff.1 hw
  unfold wtR
  split
  · have := fwW_size (waysOf_ok s h1 hx).1 P
    omega
  · exact Nat.zero_le _
theorem hbR_size (gs : List Int) (h q t u : Int) (s : ByteArray) : (hbR gs h q t u s).1.size ≤ 288 := by
  unfold hbR
  split
  · rename_i e; exact wtR_size e.1
  · exact Nat.zero_le _
theorem ptR_size (r : Bool) (gs : List Int) (h q : Int) (s : ByteArray) : (ptR r gs h q s).1.size ≤ 288 := by
  unfold ptR
  split
  · rename_i e; exact wtR_size e
  · exact Nat.zero_le _

set_option maxRecDepth 100000 in
set_option maxHeartbeats 4000000 in
theorem HandsBetween_i1 (v : Value) (gs : List Int) (h q t u : Int) (s : ByteArray) (w : World) (hv : Sl w v gs) (_ : s.size ≤ 9223372036854775807) (hs : hnB gs h q = false) :
    Calls Tryd.prog 24 #[.agg #[v], .agg #[.int .i64 h, .int .i64 q], .agg #[.int .i64 t, .int .i64 u], .string s] w fun e w' => e = .returned (.tuple #[.string (hbR gs h q t u s).1, .int .i64 (hbR gs h q t u s).2]) ∧ Below w.heap.size w w' := by
  have H1 := Lib.hid (fun w' (hb : Below w.heap.size w w') => ValidHands_i v gs h q w' (hv.below hb))
  have HB := Lib.hid hs
  have HR := Lib.hid (show hbR gs h q t u s = (⟨#[]⟩, 1) from by unfold hbR; rw [if_neg (by simp [hs])])
  clear hv hs
  go_enter Tryd.func24, Tryd.ntmps24
  obtain ⟨k0, k1, k2⟩ := bx3 w 31 28 28 #[v] #[.int .i64 h, .int .i64 q] #[.int .i64 t, .int .i64 u]
  have HK0 := Lib.hid k0
  have HK1 := Lib.hid k1
  have HK2 := Lib.hid k2
  clear k0 k1 k2
  go_wp2_with fail
  refine (H1.out _ (by go_grown)).mono ?_
  rintro e w1 ⟨rfl, hb1⟩
  rw [HB.out]
  have J0 := Lib.hid (HK0.out.below hb1)
  have J1 := Lib.hid (HK1.out.below hb1)
  have J2 := Lib.hid (HK2.out.below hb1)
  have jq0 := J0.out.cell 0 rfl
  have jq1 := J1.out.cell 0 rfl
  have jq2 := J1.out.cell 1 rfl
  have jq3 := J2.out.cell 0 rfl
  have jq4 := J2.out.cell 1 rfl
  have B1 : Below w.heap.size w w1 := Below.trans (by go_grown) (hb1.mono (by simp; omega))
  clear hb1
  go_wp2_with fail
  go_ret2
  exact ⟨ret_si (by rw [HR.out]) (by rw [HR.out]), B1⟩
set_option maxRecDepth 100000 in
set_option maxHeartbeats 4000000 in
theorem HandsBetween_i2 (v : Value) (gs : List Int) (h q t u : Int) (s : ByteArray) (w : World) (hv : Sl w v gs) (_ : s.size ≤ 9223372036854775807) (hs : hnB gs h q = true) (ht : hnB gs t u = false) :
    Calls Tryd.prog 24 #[.agg #[v], .agg #[.int .i64 h, .int .i64 q], .agg #[.int .i64 t, .int .i64 u], .string s] w fun e w' => e = .returned (.tuple #[.string (hbR gs h q t u s).1, .int .i64 (hbR gs h q t u s).2]) ∧ Below w.heap.size w w' := by
  have H1 := Lib.hid (fun w' (hb : Below w.heap.size w w') => ValidHands_i v gs h q w' (hv.below hb))
  have H2 := Lib.hid (fun w' (hb : Below w.heap.size w w') => ValidHands_i v gs t u w' (hv.below hb))
  have HB := Lib.hid hs
  have HC := Lib.hid ht
  have HR := Lib.hid (show hbR gs h q t u s = (⟨#[]⟩, 1) from by unfold hbR; rw [if_neg (by simp [ht])])
  clear hv hs ht
  go_enter Tryd.func24, Tryd.ntmps24
  obtain ⟨k0, k1, k2⟩ := bx3 w 31 28 28 #[v] #[.int .i64 h, .int .i64 q] #[.int .i64 t, .int .i64 u]
  have HK0 := Lib.hid k0
  have HK1 := Lib.hid k1
  have HK2 := Lib.hid k2
  clear k0 k1 k2
  go_wp2_with fail
  refine (H1.out _ (by go_grown)).mono ?_
  rintro e w1 ⟨rfl, hb1⟩
  rw [HB.out]
  have J0 := Lib.hid (HK0.out.below hb1)
  have J1 := Lib.hid (HK1.out.below hb1)
  have J2 := Lib.hid (HK2.out.below hb1)
  have jq0 := J0.out.cell 0 rfl
  have jq1 := J1.out.cell 0 rfl
  have jq2 := J1.out.cell 1 rfl
  have jq3 := J2.out.cell 0 rfl
  have jq4 := J2.out.cell 1 rfl
  have B1 : Below w.heap.size w w1 := Below.trans (by go_grown) (hb1.mono (by simp; omega))
  have HB1 := Lib.hid B1
  clear hb1 B1
  go_wp2_with fail
  refine (H2.out _ HB1.out).mono ?_
  rintro e w2 ⟨rfl, hb2⟩
  rw [HC.out]
  have B2 := HB1.out.trans (hb2.mono HB1.out.size)
  clear hb2
  go_wp2_with fail
  go_ret2
  exact ⟨ret_si (by rw [HR.out]) (by rw [HR.out]), B2⟩
set_option maxRecDepth 100000 in
set_option maxHeartbeats 4000000 in
theorem HandsBetween_i0 (v : Value) (gs : List Int) (h q t u : Int) (s : ByteArray) (w : World) (hv : Sl w v gs) (hsz : s.size ≤ 9223372036854775807) (hs : hnB gs h q = true) (ht : hnB gs t u = true) :
    Calls Tryd.prog 24 #[.agg #[v], .agg #[.int .i64 h, .int .i64 q], .agg #[.int .i64 t, .int .i64 u], .string s] w fun e w' => e = .returned (.tuple #[.string (hbR gs h q t u s).1, .int .i64 (hbR gs h q t u s).2]) ∧ Below w.heap.size w w' := by
  have H1 := Lib.hid (fun w' (hb : Below w.heap.size w w') => ValidHands_i v gs h q w' (hv.below hb))
  have H2 := Lib.hid (fun w' (hb : Below w.heap.size w w') => ValidHands_i v gs t u w' (hv.below hb))
  have HB := Lib.hid hs
  have HC := Lib.hid ht
  obtain ⟨hw, hx⟩ := hnB_iff.1 hs
  have HR := Lib.hid (show hbR gs h q t u s = wtR (sameP (t, u)) gs h q s from by unfold hbR; rw [if_pos ⟨hs, ht⟩])
  have HW := Lib.hid (fun B w' (hb : Below w.heap.size w w') => wayTo_eq (sameP (t, u)) v gs h q s B w' (hv.below hb) hw hx hsz)
  clear hv hs hw hx ht
  go_enter Tryd.func24, Tryd.ntmps24
  obtain ⟨k0, k1, k2⟩ := bx3 w 31 28 28 #[v] #[.int .i64 h, .int .i64 q] #[.int .i64 t, .int .i64 u]
  have HK0 := Lib.hid k0
  have HK1 := Lib.hid k1
  have HK2 := Lib.hid k2
  clear k0 k1 k2
  go_wp2_with fail
  refine (H1.out _ (by go_grown)).mono ?_
  rintro e w1 ⟨rfl, hb1⟩
  rw [HB.out]
  have J0 := Lib.hid (HK0.out.below hb1)
  have J1 := Lib.hid (HK1.out.below hb1)
  have J2 := Lib.hid (HK2.out.below hb1)
  have jq0 := J0.out.cell 0 rfl
  have jq1 := J1.out.cell 0 rfl
  have jq2 := J1.out.cell 1 rfl
  have jq3 := J2.out.cell 0 rfl
  have jq4 := J2.out.cell 1 rfl
  have B1 : Below w.heap.size w w1 := Below.trans (by go_grown) (hb1.mono (by simp; omega))
  have HB1 := Lib.hid B1
  clear hb1 B1
  go_wp2_with fail
  refine (H2.out _ HB1.out).mono ?_
  rintro e w2 ⟨rfl, hb2⟩
  rw [HC.out]
  clear jq0 jq1 jq2 jq3 jq4
  have K0 := Lib.hid (J0.out.below hb2)
  have K1 := Lib.hid (J1.out.below hb2)
  have K2 := Lib.hid (J2.out.below hb2)
  have kq0 := K0.out.cell 0 rfl
  have kq1 := K1.out.cell 0 rfl
  have kq2 := K1.out.cell 1 rfl
  have kq3 := K2.out.cell 0 rfl
  have kq4 := K2.out.cell 1 rfl
  have HB2 := Lib.hid (HB1.out.trans (hb2.mono HB1.out.size))
  clear hb2
  have hmf : ∀ (fn : Fn) (first cap : Array Value) (w : World), (Instr.makeFunc fn first cap).run Tryd.prog w = .ok (.func fn first cap) w := fun _ _ _ _ => rfl
  go_wp2_with fail
  refine (HW.out _ _ HB2.out (fun x w' hb' hx' => closure_eq (t, u) x _ w' ((K2.out.below hb').cell 0 rfl) ((K2.out.below hb').cell 1 rfl) (K2.out.below hb').lt)).mono ?_
  rintro e w3 ⟨rfl, hb3⟩
  have B3 := HB2.out.trans (hb3.mono HB2.out.size)
  clear hb3
  go_wp2_with fail
  go_ret2
  exact ⟨ret_si (by rw [HR.out]) (by rw [HR.out]), B3⟩
set_option maxRecDepth 100000 in
set_option maxHeartbeats 4000000 in
theorem PathToRight_i1 (v : Value) (gs : List Int) (h q : Int) (s : ByteArray) (w : World) (hv : Sl w v gs) (_ : s.size ≤ 9223372036854775807) (hs : hnB gs h q = false) :
    Calls Tryd.prog 26 #[.agg #[v], .agg #[.int .i64 h, .int .i64 q], .string s] w fun e w' => e = .returned (.tuple #[.string (ptR true gs h q s).1, .int .i64 (ptR true gs h q s).2]) ∧ Below w.heap.size w w' := by
  have H1 := Lib.hid (fun w' (hb : Below w.heap.size w w') => ValidHands_i v gs h q w' (hv.below hb))
  have HB := Lib.hid hs
  have HR := Lib.hid (show ptR true gs h q s = (⟨#[]⟩, 1) from by unfold ptR; rw [if_neg (by simp [hs])])
  clear hv hs
  go_enter Tryd.func26, Tryd.ntmps26
  obtain ⟨k0, k1⟩ := bx2 w 31 28 #[v] #[.int .i64 h, .int .i64 q]
  have HK0 := Lib.hid k0
  have HK1 := Lib.hid k1
  clear k0 k1
  go_wp2_with fail
  refine (H1.out _ (by go_grown)).mono ?_
  rintro e w1 ⟨rfl, hb1⟩
  rw [HB.out]
  have B1 : Below w.heap.size w w1 := Below.trans (by go_grown) (hb1.mono (by simp; omega))
  clear hb1
  go_wp2_with fail
  go_ret2
  exact ⟨ret_si (by rw [HR.out]) (by rw [HR.out]), B1⟩
set_option maxRecDepth 100000 in
set_option maxHeartbeats 4000000 in
theorem PathToRight_i0 (v : Value) (gs : List Int) (h q : Int) (s : ByteArray) (w : World) (hv : Sl w v gs) (hsz : s.size ≤ 9223372036854775807) (hs : hnB gs h q = true) :
    Calls Tryd.prog 26 #[.agg #[v], .agg #[.int .i64 h, .int .i64 q], .string s] w fun e w' => e = .returned (.tuple #[.string (ptR true gs h q s).1, .int .i64 (ptR true gs h q s).2]) ∧ Below w.heap.size w w' := by
  have H1 := Lib.hid (fun w' (hb : Below w.heap.size w w') => ValidHands_i v gs h q w' (hv.below hb))
  have HB := Lib.hid hs
  obtain ⟨hw, hx⟩ := hnB_iff.1 hs
  have HR := Lib.hid (show ptR true gs h q s = wtR (fun x => rgB gs x.1 x.2) gs h q s from by unfold ptR; rw [if_pos hs, rg_true])
  have HW := Lib.hid (fun B w' (hb : Below w.heap.size w w') => wayTo_right (fun x => rgB gs x.1 x.2) v gs h q s B w' (hv.below hb) hw hx hsz)
  have HCl := Lib.hid (fun x B w' (hb : Below w.heap.size w w') (hx : hsB gs x.1 x.2 = true) => closure_right v gs x B w' (hv.below hb) hw hx)
  clear hv hs hw hx
  go_enter Tryd.func26, Tryd.ntmps26
  obtain ⟨k0, k1⟩ := bx2 w 31 28 #[v] #[.int .i64 h, .int .i64 q]
  have HK0 := Lib.hid k0
  have HK1 := Lib.hid k1
  clear k0 k1
  go_wp2_with fail
  refine (H1.out _ (by go_grown)).mono ?_
  rintro e w1 ⟨rfl, hb1⟩
  rw [HB.out]
  have J0 := Lib.hid (HK0.out.below hb1)
  have J1 := Lib.hid (HK1.out.below hb1)
  have jq0 := J0.out.cell 0 rfl
  have jq1 := J1.out.cell 0 rfl
  have jq2 := J1.out.cell 1 rfl
  have B1 : Below w.heap.size w w1 := Below.trans (by go_grown) (hb1.mono (by simp; omega))
  have HB1 := Lib.hid B1
  clear hb1 B1
  have hmf : ∀ (fn : Fn) (first cap : Array Value) (w : World), (Instr.makeFunc fn first cap).run Tryd.prog w = .ok (.func fn first cap) w := fun _ _ _ _ => rfl
  go_wp2_with fail
  refine (HW.out _ _ HB1.out (fun x w' hb' hx' => HCl.out x _ w' (grown_again HB1.out hb') hx' ((J0.out.below hb').cell 0 rfl) (J0.out.below hb').lt)).mono ?_
  rintro e w3 ⟨rfl, hb3⟩
  have B3 := HB1.out.trans (hb3.mono HB1.out.size)
  clear hb3
  go_wp2_with fail
  go_ret2
  exact ⟨ret_si (by rw [HR.out]) (by rw [HR.out]), B3⟩
set_option maxRecDepth 100000 in
set_option maxHeartbeats 4000000 in
theorem PathToWrong_i1 (v : Value) (gs : List Int) (h q : Int) (s : ByteArray) (w : World) (hv : Sl w v gs) (_ : s.size ≤ 9223372036854775807) (hs : hnB gs h q = false) :
    Calls Tryd.prog 28 #[.agg #[v], .agg #[.int .i64 h, .int .i64 q], .string s] w fun e w' => e = .returned (.tuple #[.string (ptR false gs h q s).1, .int .i64 (ptR false gs h q s).2]) ∧ Below w.heap.size w w' := by
  have H1 := Lib.hid (fun w' (hb : Below w.heap.size w w') => ValidHands_i v gs h q w' (hv.below hb))
  have HB := Lib.hid hs
  have HR := Lib.hid (show ptR false gs h q s = (⟨#[]⟩, 1) from by unfold ptR; rw [if_neg (by simp [hs])])
  clear hv hs
  go_enter Tryd.func28, Tryd.ntmps28
  obtain ⟨k0, k1⟩ := bx2 w 31 28 #[v] #[.int .i64 h, .int .i64 q]
  have HK0 := Lib.hid k0
  have HK1 := Lib.hid k1
  clear k0 k1
  go_wp2_with fail
  refine (H1.out _ (by go_grown)).mono ?_
  rintro e w1 ⟨rfl, hb1⟩
  rw [HB.out]
  have B1 : Below w.heap.size w w1 := Below.trans (by go_grown) (hb1.mono (by simp; omega))
  clear hb1
  go_wp2_with fail
  go_ret2
  exact ⟨ret_si (by rw [HR.out]) (by rw [HR.out]), B1⟩
set_option maxRecDepth 100000 in
set_option maxHeartbeats 4000000 in
theorem PathToWrong_i0 (v : Value) (gs : List Int) (h q : Int) (s : ByteArray) (w : World) (hv : Sl w v gs) (hsz : s.size ≤ 9223372036854775807) (hs : hnB gs h q = true) :
    Calls Tryd.prog 28 #[.agg #[v], .agg #[.int .i64 h, .int .i64 q], .string s] w fun e w' => e = .returned (.tuple #[.string (ptR false gs h q s).1, .int .i64 (ptR false gs h q s).2]) ∧ Below w.heap.size w w' := by
  have H1 := Lib.hid (fun w' (hb : Below w.heap.size w w') => ValidHands_i v gs h q w' (hv.below hb))
  have HB := Lib.hid hs
  obtain ⟨hw, hx⟩ := hnB_iff.1 hs
  have HR := Lib.hid (show ptR false gs h q s = wtR (fun x => !rgB gs x.1 x.2) gs h q s from by unfold ptR; rw [if_pos hs, rg_false])
  have HW := Lib.hid (fun B w' (hb : Below w.heap.size w w') => wayTo_wrong (fun x => !rgB gs x.1 x.2) v gs h q s B w' (hv.below hb) hw hx hsz)
  have HCl := Lib.hid (fun x B w' (hb : Below w.heap.size w w') (hx : hsB gs x.1 x.2 = true) => closure_wrong v gs x B w' (hv.below hb) hw hx)
  clear hv hs hw hx
  go_enter Tryd.func28, Tryd.ntmps28
  obtain ⟨k0, k1⟩ := bx2 w 31 28 #[v] #[.int .i64 h, .int .i64 q]
  have HK0 := Lib.hid k0
  have HK1 := Lib.hid k1
  clear k0 k1
  go_wp2_with fail
  refine (H1.out _ (by go_grown)).mono ?_
  rintro e w1 ⟨rfl, hb1⟩
  rw [HB.out]
  have J0 := Lib.hid (HK0.out.below hb1)
  have J1 := Lib.hid (HK1.out.below hb1)
  have jq0 := J0.out.cell 0 rfl
  have jq1 := J1.out.cell 0 rfl
  have jq2 := J1.out.cell 1 rfl
  have B1 : Below w.heap.size w w1 := Below.trans (by go_grown) (hb1.mono (by simp; omega))
  have HB1 := Lib.hid B1
  clear hb1 B1
  have hmf : ∀ (fn : Fn) (first cap : Array Value) (w : World), (Instr.makeFunc fn first cap).run Tryd.prog w = .ok (.func fn first cap) w := fun _ _ _ _ => rfl
  go_wp2_with fail
  refine (HW.out _ _ HB1.out (fun x w' hb' hx' => HCl.out x _ w' (grown_again HB1.out hb') hx' ((J0.out.below hb').cell 0 rfl) (J0.out.below hb').lt)).mono ?_
  rintro e w3 ⟨rfl, hb3⟩
  have B3 := HB1.out.trans (hb3.mono HB1.out.size)
  clear hb3
  go_wp2_with fail
  go_ret2
  exact ⟨ret_si (by rw [HR.out]) (by rw [HR.out]), B3⟩
end Go.Proofs.YtfddibdncniekaaDoor
