/- Hands: waysFrom in the program: all states that actions lead to, with their paths. -/
import Derived.Test.YtfddibdncniekaaDoorWyB
import Derived.Test.YtfddibdncniekaaDoorMpHandState
import Derived.Lib.IndexLaws
import Derived.Deep.DeepCutAuto
import Derived.Carry
import Derived.Lib.SmallJoins
namespace Go.Proofs.YtfddibdncniekaaDoor
open Go.RowKit Go.Shelf
attribute [local go_sem ↓] Go.wp_at_zero Go.wp_at_succ

/-- Where a byte stands in a text; -1: nowhere. -/
def idxB (s : ByteArray) (b : UInt8) : Int := Lib.indexByte s.data.toList b
theorem idxB_neg {s : ByteArray} {b : UInt8} : idxB s b < 0 ↔ ¬ b ∈ s.data.toList := by
  have h := Lib.indexByte_ge s.data.toList b
  constructor
  · intro h1 hb
    have e : Lib.indexByte s.data.toList b = -1 := by unfold idxB at h1; omega
    obtain ⟨k, hk, hkb⟩ := List.getElem_of_mem hb
    exact Lib.indexByte_none e k (by rw [List.getElem?_eq_getElem hk, hkb])
  · intro hb
    apply Classical.byContradiction
    intro h1
    obtain ⟨o, ho⟩ := Int.eq_ofNat_of_zero_le (show 0 ≤ Lib.indexByte s.data.toList b by unfold idxB at h1; omega)
    exact hb (List.mem_of_getElem? (Lib.indexByte_some ho).1)
set_option maxHeartbeats 1000000 in
theorem strIndexByte_any (s : ByteArray) (b : UInt8) (w : World) :
    Calls Tryd.prog 98 #[.string s, .int .u8 b.toNat] w fun e w' => e = .returned (.int .i64 (idxB s b)) ∧ w' = w := by
  have hcon := fun w => Any.stringslite_IndexByte (ρ := YtfddibdncniekaaDoor.layTrim_ren) (P := Tryd.prog) { YtfddibdncniekaaDoor.layTrim with } s b.toNat w
  have e : ((b.toNat : Int).toNat.toUInt8) = b := by simp
  rw [e] at hcon
  have HC := Lib.hid (show ∀ w, Calls Tryd.prog 112 #[.string s, .int .u8 b.toNat] w (fun e w' => e = .returned (.int .i64 (idxB s b)) ∧ w' = w) from hcon)
  clear hcon e
  go_enter Tryd.func98, Tryd.ntmps98
  go_wp2_with fail
  refine (HC.out _).mono ?_
  rintro e w' ⟨rfl, rfl⟩
  go_wp2
  go_ret
  exact ⟨rfl, rfl⟩

/-- The three actions' bytes. -/
def bfl : List UInt8 := [98, 102, 108]
def bB (c : Nat) : UInt8 := bfl.getD c 0
theorem bB_kn {c : Nat} (h : c < 3) : kn1 (bB c) = true := by
  rcases (by omega : c = 0 ∨ c = 1 ∨ c = 2) with rfl | rfl | rfl <;> rfl
/-- Block g holds the three actions' bytes. -/
def B3 (w : World) (g : Nat) : Prop := ∃ fr, w.heap[g]? = some (.cells #[.int .u8 98, .int .u8 102, .int .u8 108] 5 fr)
section
variable {w w' : World} {g : Nat}
theorem B3.lt (h : B3 w g) : g < w.heap.size := by
  obtain ⟨fr, h⟩ := h
  exact (Array.getElem?_eq_some_iff.1 h).1
theorem B3.cell (h : B3 w g) {c : Nat} (hc : c < 3) : w.cell? ⟨g, c, none⟩ = some (.int .u8 ((bB c).toNat : Int)) := by
  obtain ⟨fr, h⟩ := h
  rw [cell_of_row w g c _ _ fr h]
  rcases (by omega : c = 0 ∨ c = 1 ∨ c = 2) with rfl | rfl | rfl <;> rfl
theorem B3.belowB {B : Nat} (h : B3 w g) (hb : Below B w w') (hg : g < B) : B3 w' g := by
  obtain ⟨fr, h⟩ := h
  exact ⟨fr, (hb.block g hg).trans h⟩
theorem B3.below (h : B3 w g) (hb : Below w.heap.size w w') : B3 w' g := h.belowB hb h.lt
theorem B3.alloc (h : B3 w g) (o : Obj) : B3 (w.alloc o) g := h.below ((Below.refl _ _).alloc (Nat.le_refl _) o)
theorem B3.grown {row : Option Nat} (h : B3 w g) (hg : w.grownBy w' row) (hn : some g ≠ row) : B3 w' g := by
  have hl := h.lt
  obtain ⟨fr, h⟩ := h
  exact ⟨fr, (hg.block g hl hn).trans h⟩
end
theorem kn_wrap {b : UInt8} (h : kn1 b = true) : IntKind.i32.wrap (b.toNat : Int) = b.toNat ∧ Utf8.encode (b.toNat : Int) = by1 b := by
  rcases kn1_cases h with rfl | rfl | rfl <;> exact ⟨IntWalk.i32_in _ (by decide +kernel), by kernel_rfl⟩
/-- The first c actions that the text holds. -/
def fA (s : ByteArray) (c : Nat) : List UInt8 := (bfl.take c).filter fun b => decide (b ∈ s.data.toList)
theorem fA_zero (s : ByteArray) : fA s 0 = [] := rfl
theorem fA_all (s : ByteArray) : fA s 3 = actA s := rfl
theorem fA_in {s : ByteArray} {c : Nat} (hc : c < 3) (h : bB c ∈ s.data.toList) : fA s (c + 1) = fA s c ++ [bB c] := by
  have e : bfl.take (c + 1) = bfl.take c ++ [bB c] := by rcases (by omega : c = 0 ∨ c = 1 ∨ c = 2) with rfl | rfl | rfl <;> rfl
  rw [fA, e, List.filter_append, List.filter_cons_of_pos (by simpa using h), List.filter_nil]
  rfl
theorem fA_out {s : ByteArray} {c : Nat} (hc : c < 3) (h : ¬ bB c ∈ s.data.toList) : fA s (c + 1) = fA s c := by
  have e : bfl.take (c + 1) = bfl.take c ++ [bB c] := by rcases (by omega : c = 0 ∨ c = 1 ∨ c = 2) with rfl | rfl | rfl <;> rfl
  rw [fA, e, List.filter_append, List.filter_cons_of_neg (by simpa using h), List.filter_nil, List.append_nil]
  rfl
theorem fA_sub {s : ByteArray} {c : Nat} : ∀ b ∈ fA s c, b ∈ actA s := fun b hb => by
  obtain ⟨h1, h2⟩ := List.mem_filter.1 hb
  exact List.mem_filter.2 ⟨List.mem_of_mem_take h1, h2⟩
theorem hsB_wf {gs : List Int} (hn : gs.length ≤ 24) {x : Int × Int} (h : hsB gs x.1 x.2 = true) : WfP x := by
  obtain ⟨⟨a, b⟩, c, d⟩ := hsB_iff.1 h
  exact wfP (by omega) (by omega)
/-- A row of ways keeps off some blocks. -/
def Off (v : Value) (a b c : Nat) : Prop := ∀ k, v.ownBlock = some k → k ≠ a ∧ k ≠ b ∧ k ≠ c

set_option maxRecDepth 100000 in
set_option maxHeartbeats 8000000 in
theorem waysFrom_any (v : Value) (gs : List Int) (h q : Int) (s : ByteArray) (w : World) (hv : Sl w v gs) (hw : whB gs = true) (hx : hsB gs h q = true) :
    Calls Tryd.prog 79 #[.agg #[v], .agg #[.int .i64 h, .int .i64 q], .string s] w fun e w' => ∃ v', e = .returned v' ∧ w'.ownsRow w.heap.size 93 3 v' (waysOf gs h q s).length (W64 (waysOf gs h q s)) ∧ Below w.heap.size w w' := by
  obtain ⟨-, h1, h24⟩ := whB_iff.1 hw
  have H2 := Lib.hid (fun (b : UInt8) (x : Int × Int) w' (hb : Below w.heap.size w w') (hx : hsB gs x.1 x.2 = true) (hk : kn1 b = true) => act_any v gs b x w' (hv.below hb) h1 hx hk)
  have HX := Lib.hid hx
  clear hv hw hx
  go_enter Tryd.func79, Tryd.ntmps79
  go_upto_region 1 with (fail)
  obtain ⟨w1, hw1⟩ : ∃ w1 : World, w1 = (w.alloc (.cells #[v] 31)).alloc (.cells #[.int .i64 h, .int .i64 q] 28) := ⟨_, rfl⟩
  rw [← hw1]
  obtain ⟨k0, k1⟩ := bx2 w 31 28 #[v] #[.int .i64 h, .int .i64 q]
  rw [← hw1] at k0 k1
  have z1 : w1.heap.size = w.heap.size + 1 + 1 := by rw [hw1]; simp
  have B1 : Below w.heap.size w w1 := by rw [hw1]; go_grown
  have J0 := Lib.hid k0
  have J1 := Lib.hid k1
  have q2 := k1.cell 0 rfl
  have q3 := k1.cell 1 rfl
  have HS0 : Hid (Seen ((w1.alloc (.cells #[.int .i64 h, .int .i64 q, .string ⟨#[]⟩] 93)).alloc (.map #[] 0)) (w1.heap.size + 1) []) := by
    have := Seen.new (w1.alloc (.cells #[.int .i64 h, .int .i64 q, .string ⟨#[]⟩] 93))
    rw [World.size_alloc] at this
    exact this
  have HO0 : Hid ((w1.alloc (.cells #[.int .i64 h, .int .i64 q, .string ⟨#[]⟩] 93)).ownsRow w1.heap.size 93 3 (.slice (some ⟨w1.heap.size, 0, none⟩) 1 1) 1 (W64 [((h, q), ⟨#[]⟩)])) :=
    World.ownsRow_lit w1 #[.int .i64 h, .int .i64 q, .string ⟨#[]⟩] 1 (Nat.le_refl _) (by decide) rfl
  have HB1 := Lib.hid B1
  have HZ1 := Lib.hid z1
  have zl : w.heap.size + 1 < w1.heap.size := by omega
  have zk : w.heap.size < w1.heap.size := by omega
  have hmm := @run_makeMap Tryd.prog
  have HW0 := Lib.hid (hsB_wf h24 (x := (h, q)) HX.out)
  clear hw1 k0 k1 B1 z1
  go_wp2_with (first
    | (refine wpList_see rfl _ _ _ (.inr rfl) (w1.heap.size + 1) [] rfl HS0.out (by decide) (h, q) rfl rfl HW0.out ?_; intro w2 hs2 hg2; have HS2 := Lib.hid hs2; have HG2 := Lib.hid hg2; clear hs2 hg2))
  have hg2 := HG2.out
  have z1 := HZ1.out
  have z2 := hg2.size
  simp only [World.size_alloc] at z2
  have P0 := Lib.hid (((J0.out.alloc _).alloc _).grown hg2 (by simp; omega))
  have O0 := Lib.hid (((HO0.out.alloc _)).kept hg2 (Or.inr (by simp [Value.ownBlock])))
  have HB2 : Hid (Below w.heap.size w w2) := (((HB1.out.alloc (by omega) _).alloc (by simp; omega) _).grown hg2 (by simp; omega) (fun k hk => by cases hk; omega))
  obtain ⟨R, hR⟩ : ∃ R, R = waysOf gs h q s := ⟨_, rfl⟩
  have HR := Lib.hid hR
  clear J0 J1 q2 q3 HS0 HO0 HB1 HG2 hg2 hR
  have mpz : w1.heap.size + 1 < w2.heap.size := by omega
  have hxl : 12 * gs.length ≤ 288 := by omega
  clear z1 z2
  have HH1 := Lib.hid h1
  go_loopw [7, 9] (fun x7 a9 wr => ∃ (L : List Way) (i : Nat), a9 = .int .i64 (i : Int) ∧ i ≤ L.length ∧ Hid (WSt gs (actA s) (h, q) L) ∧ Hid (waysR gs (actA s) (12 * gs.length + 1 - i) L i = R) ∧ wr.ownsRow w1.heap.size 93 3 x7 L.length (W64 L) ∧ x7.ownBlock ≠ some (w1.heap.size + 1) ∧ Seen wr (w1.heap.size + 1) (L.map Prod.fst) ∧ Blk wr w.heap.size 31 #[v] ∧ Below w.heap.size w wr) (fun _ a _ => 12 * gs.length + 1 - (intOf a).toNat)
  case atStart =>
    exact ⟨[((h, q), ⟨#[]⟩)], 0, rfl, by simp, Lib.hid (WSt.begin HX.out), Lib.hid HR.out.symm, O0.out, by simp [Value.ownBlock], HS2.out, P0.out, HB2.out⟩
  case round =>
    obtain ⟨L, i, rfl, hil, hst, hrr, hown, hne, hse, b0, hB⟩ := hrel
    obtain ⟨wo, rfl⟩ : ∃ y : World, y = wr := ⟨_, rfl⟩
    clear P0 O0 HB2 HS2
    have hcnt := hst.out.count
    obtain ⟨bw, cw, rfl, hbw1, hbw2, hcw, hcx, hcells⟩ := own_way hown hst.out.pos
    have HO := Lib.hid hown
    have HNE := Lib.hid hne
    have HSe := Lib.hid hse
    have P1 := Lib.hid b0
    have HB3 := Lib.hid hB
    have zr := b0.lt
    have zm := hse.lt
    have hcz : (L.length : Int) ≤ (cw : Int) := by omega
    simp only [maxLen] at hcx
    by_cases hi : i < L.length
    · obtain ⟨c0, c1, c2⟩ := hcells.out i hi
      obtain ⟨x, hx⟩ : ∃ x, x = pw L i := ⟨_, rfl⟩
      rw [← hx] at c0 c1 c2
      have hxs : x.2.size ≤ 288 := by have := hst.out.size i hi; rw [← hx] at this; omega
      have HXV := Lib.hid (show hsB gs x.1.1 x.1.2 = true from hst.out.valid x (by rw [hx]; exact pw_mem hi))
      have HXe := Lib.hid hx
      have hi2 : (i : Int) < (L.length : Int) := by omega
      have HRR := Lib.hid (show waysR gs (actA s) (12 * gs.length + 1 - (i + 1)) (wFold gs x L (actA s)) (i + 1) = R by
        have := hrr.out
        rw [show 12 * gs.length + 1 - i = (12 * gs.length + 1 - (i + 1)) + 1 by omega, waysR_step hi, ← hx] at this
        exact this)
      have HNX := Lib.hid (show ∀ c, WSt gs (actA s) (h, q) (wFold gs x L (fA s c)) ∧ ∃ T, wFold gs x L (fA s c) = L ++ T from fun c => by
        have := hst.out.fold HH1.out hi (fA s c) fA_sub
        rw [← hx] at this
        exact ⟨this.1, this.2.1⟩)
      clear hcells hx hown hne hse b0 hB
      have kc := Joins.run_convert_bytes_const_at (P := Tryd.prog) (wo.alloc (.cells #[.int .i64 x.1.1, .int .i64 x.1.2, .string x.2] 93)) 44 5 #[.int .u8 98, .int .u8 102, .int .u8 108] 3 3 (wo.heap.size + 1) (by simp) Tryd.underlying44 Tryd.underlying5
      go_wp2_with fail
      go_loopw [7, 34] (fun x7 a wi => ∃ c : Nat, c ≤ 3 ∧ a = .int .i64 (c : Int) ∧ wi.ownsRow w1.heap.size 93 3 x7 (wFold gs x L (fA s c)).length (W64 (wFold gs x L (fA s c))) ∧ Hid (Off x7 (w1.heap.size + 1) wo.heap.size (wo.heap.size + 1)) ∧ Seen wi (w1.heap.size + 1) ((wFold gs x L (fA s c)).map Prod.fst) ∧ Blk wi wo.heap.size 93 #[.int .i64 x.1.1, .int .i64 x.1.2, .string x.2] ∧ B3 wi (wo.heap.size + 1) ∧ Blk wi w.heap.size 31 #[v] ∧ Below w.heap.size w wi) (fun _ a _ => 3 - (intOf a).toNat)
      case atStart =>
        have e1 : B3 ((wo.alloc (.cells #[.int .i64 x.1.1, .int .i64 x.1.2, .string x.2] 93)).alloc (.cells #[.int .u8 98, .int .u8 102, .int .u8 108] 5 (3, 4))) (wo.heap.size + 1) := ⟨(3, 4), by have := heap_alloc_new (wo.alloc (.cells #[.int .i64 x.1.1, .int .i64 x.1.2, .string x.2] 93)) (.cells #[.int .u8 98, .int .u8 102, .int .u8 108] 5 (3, 4)); rwa [World.size_alloc] at this⟩
        refine ⟨0, by omega, by go_num, own_below HO.out (by go_grown), fun k hk => ?_, (HSe.out.alloc _).alloc _, (Blk.new wo _ _).alloc _, e1, (P1.out.alloc _).alloc _, (HB3.out.alloc (by omega) _).alloc (by simp; omega) _⟩
        obtain rfl : bw = k := by simpa [Value.ownBlock] using hk
        refine ⟨fun e => HNE.out (by rw [← e]; rfl), by omega, by omega⟩
      case round =>
        obtain ⟨c, hc, rfl, hown, hoff, hse, bx, bb, b0, hB⟩ := hrel
        clear c0 c1 c2 HO HNE HSe P1
        obtain ⟨hstM, T, hT⟩ := HNX.out c
        obtain ⟨M, hM⟩ : ∃ M, M = wFold gs x L (fA s c) := ⟨_, rfl⟩
        rw [← hM] at hown hse hstM hT
        have hcM := hstM.count
        have HO := Lib.hid hown
        have HSe := Lib.hid hse
        have PX := Lib.hid bx
        have PB := Lib.hid bb
        have P1 := Lib.hid b0
        have HB4 := Lib.hid hB
        have HST := Lib.hid hstM
        have HMe := Lib.hid hM
        have zi := bb.lt
        have zj := b0.lt
        have zs := hse.lt
        by_cases hc3 : c < 3
        · have hc3' : (c : Int) < 3 := by omega
          obtain ⟨b, hb⟩ : ∃ b, b = bB c := ⟨_, rfl⟩
          have qb : wr.cell? ⟨wo.heap.size + 1, c, none⟩ = some (.int .u8 (b.toNat : Int)) := by rw [hb]; exact bb.cell hc3
          have hkn : kn1 b = true := by rw [hb]; exact bB_kn hc3
          have HK := Lib.hid hkn
          have HBe := Lib.hid hb
          by_cases hin : b ∈ s.data.toList
          · have hix : ¬ idxB s b < 0 := fun h => idxB_neg.1 h hin
            obtain ⟨y, hy⟩ : ∃ y, y = stpB gs b x.1 := ⟨_, rfl⟩
            have H3 := Lib.hid (show ∀ w', Below w.heap.size w w' → Calls Tryd.prog 57 #[.agg #[v], .agg #[.int .i64 x.1.1, .int .i64 x.1.2], .int .u8 b.toNat] w' fun e w'' => e = .returned (.tuple #[.agg #[.int .i64 y.1, .int .i64 y.2], .int .i64 (stpN gs b x.1)]) ∧ Below w'.heap.size w' w'' from fun w' hb' => by rw [hy]; exact H2.out b x.1 w' hb' HXV.out HK.out)
            have HY := Lib.hid hy
            have hyv : hsB gs y.1 y.2 = true := by rw [hy]; exact stpB_in HH1.out b HXV.out
            have HYW := Lib.hid (hsB_wf h24 hyv)
            have HE := Lib.hid (show wFold gs x L (fA s (c + 1)) = wAdd gs x M b by rw [fA_in hc3 (by rw [← hb]; exact hin), wFold_snoc, ← hM, ← hb])
            have q0 := bx.cell 0 rfl
            have q1 := bx.cell 1 rfl
            have q2 := b0.cell 0 rfl
            clear hown hse bx bb b0 hB hstM hM hkn hb hin hy hyv hT
            go_wp2_with fail
            refine (strIndexByte_any s b _).mono ?_
            rintro e w' ⟨rfl, rfl⟩
            go_wp2_with fail
            refine (H3.out _ HB4.out).mono ?_
            rintro e w3 ⟨rfl, hb3⟩
            have HSe5 := Lib.hid (HSe.out.below hb3)
            have O5 := Lib.hid (own_below HO.out hb3)
            have PX5 := Lib.hid (PX.out.below hb3)
            have PB5 := Lib.hid (PB.out.below hb3)
            have P5 := Lib.hid (P1.out.below hb3)
            have HB5 := Lib.hid (HB4.out.trans (hb3.mono HB4.out.size))
            have z35 := hb3.size
            have hwf : ∀ z ∈ M.map Prod.fst, WfP z := fun z hz => by
              obtain ⟨t, ht, rfl⟩ := List.mem_map.1 hz
              exact hsB_wf h24 (HST.out.valid t ht)
            have hlk := (HSe5.out.alloc (.cells #[.int .i64 y.1, .int .i64 y.2] 28)).ask hwf HYW.out
            by_cases hin2 : y ∈ M.map Prod.fst
            · rw [decide_eq_true hin2] at hlk
              have HE2 := Lib.hid (show wFold gs x L (fA s (c + 1)) = M by rw [HE.out, wAdd_in (by rw [← HY.out]; exact hin2)])
              clear hin2 hwf hb3 q0 q1 q2
              go_wp2_with fail
              refine ⟨⟨c + 1, by omega, by simp, ?_, hoff, ?_, PX5.out.alloc _, PB5.out.alloc _, P5.out.alloc _, HB5.out.alloc (by omega) _⟩, by simp [intOf]; omega⟩
              · rw [HE2.out]; exact own_below O5.out (by go_grown)
              · rw [HE2.out]; exact HSe5.out.alloc _
            · rw [decide_eq_false hin2] at hlk
              have HE2 := Lib.hid (show wFold gs x L (fA s (c + 1)) = M ++ [(y, x.2 ++ by1 b)] by rw [HE.out, wAdd_out (by rw [← HY.out]; exact hin2), ← HY.out])
              obtain ⟨eW, eU⟩ := kn_wrap HK.out
              have hsz : x.2.size + (by1 b).size ≤ 9223372036854775807 := by show x.2.size + 1 ≤ _; omega
              have hsz2 : ¬ 9223372036854775807 < x.2.size + (by1 b).size := by omega
              have offM : ∀ k, u7.ownBlock = some k → k ≠ w1.heap.size + 1 ∧ k ≠ wo.heap.size ∧ k ≠ wo.heap.size + 1 := hoff.out
              have HOF := Lib.hid offM
              have zmo := zm
              clear hin2 hwf hb3 q0 q1 q2 offM
              go_wp2_with (first
                | (at_mapUpdate; refine wpList_see rfl _ _ _ (.inl rfl) (w1.heap.size + 1) (M.map Prod.fst) rfl (HSe5.out.alloc _) (by simp; omega) y rfl rfl HYW.out ?_; intro w5 hs5 hg5; have e0 : w5.cell? ⟨w3.heap.size, 0, none⟩ = _ := hg5.cell ((Blk.new w3 28 #[.int .i64 y.1, .int .i64 y.2]).cell 0 rfl) (by simp; omega); have e1 : w5.cell? ⟨w3.heap.size, 1, none⟩ = _ := hg5.cell ((Blk.new w3 28 #[.int .i64 y.1, .int .i64 y.2]).cell 1 rfl) (by simp; omega); have px6 := (PX5.out.alloc (.cells #[.int .i64 y.1, .int .i64 y.2] 28)).grown hg5 (by simp; omega); have s2 := px6.cell 2 rfl; have PX6 := Lib.hid px6; have PB6 := Lib.hid ((PB5.out.alloc (.cells #[.int .i64 y.1, .int .i64 y.2] 28)).grown hg5 (by simp; omega)); have P6 := Lib.hid ((P5.out.alloc (.cells #[.int .i64 y.1, .int .i64 y.2] 28)).grown hg5 (by simp; omega)); have HS5 := Lib.hid hs5; have O6 := Lib.hid ((own_below O5.out (by go_grown)).kept hg5 (Or.inr (fun e => (HOF.out _ e).1 rfl))); have HB6 := Lib.hid ((HB5.out.alloc (by omega) (.cells #[.int .i64 y.1, .int .i64 y.2] 28)).grown hg5 (by simp; omega) (fun k hk => by cases hk; omega)); have z5 := hg5.size; simp only [World.size_alloc] at z5; clear hs5 hg5 px6)
                | (at_builtin; refine wpList_appW rfl _ _ rfl w1.heap.size u7 M rfl O6.out (y, x.2 ++ by1 b) w5.heap.size rfl rfl (by omega) (by omega) ?_; intro v6 w6 ho6 hb6 hg6 hk6; have HO7 := Lib.hid ho6; have HB7 := Lib.hid hb6; have HG7 := Lib.hid hg6; have HK7 := Lib.hid hk6; clear ho6 hb6 hg6 hk6))
              refine ⟨⟨c + 1, by omega, by simp, ?_, ?_, ?_, PX6.out.grown HG7.out (fun e => (HOF.out _ e.symm).2.1 rfl), PB6.out.grown HG7.out (fun e => (HOF.out _ e.symm).2.2 rfl), P6.out.belowB HB7.out (by omega), HB6.out.trans (HB7.out.mono (by omega))⟩, by simp [intOf]; omega⟩
              · rw [HE2.out]; exact HO7.out
              · refine Lib.hid fun k hk => ?_
                rcases HK7.out with h | h
                · exact HOF.out k (h.symm.trans hk)
                · rw [h] at hk
                  obtain rfl : w5.heap.size + 1 = k := by simpa using hk
                  exact ⟨by omega, by omega, by omega⟩
              · rw [HE2.out, List.map_append]
                exact HS5.out.kept HG7.out (fun e => (HOF.out _ e.symm).1 rfl)
          · have hix : idxB s b < 0 := idxB_neg.2 hin
            have HE := Lib.hid (show wFold gs x L (fA s (c + 1)) = M by rw [fA_out hc3 (by rw [← hb]; exact hin)]; exact hM.symm)
            clear hown hse bx bb b0 hB hstM hM hkn hb hin hT
            go_wp2_with fail
            refine (strIndexByte_any s b _).mono ?_
            rintro e w' ⟨rfl, rfl⟩
            go_wp2_with fail
            refine ⟨⟨c + 1, by omega, by simp, ?_, hoff, ?_, PX.out, PB.out, P1.out, HB4.out⟩, by simp [intOf]; omega⟩
            · rw [HE.out]; exact HO.out
            · rw [HE.out]; exact HSe.out
        · obtain rfl : c = 3 := by omega
          have HE := Lib.hid hstM
          have hMl : i < M.length := by rw [hT, List.length_append]; omega
          clear hown hse bx bb b0 hB hstM hM hT
          go_wp2_with fail
          refine ⟨⟨M, i + 1, by simp, by omega, HE, ?_, HO.out, fun e => (hoff.out _ e).1 rfl, HSe.out, P1.out, HB4.out⟩, by simp [intOf]; omega⟩
          have := HRR.out
          rw [← fA_all, ← HMe.out] at this
          exact Lib.hid this
    · obtain rfl : i = L.length := by omega
      have e : L = R := by have := hrr.out; rwa [waysR_end] at this
      have HE := Lib.hid e
      clear e hcells hown hne hse b0 hB
      go_wp2_with fail
      go_ret
      refine ⟨_, rfl, ?_, HB3.out⟩
      rw [← HR.out, ← HE.out]
      exact own_mono HO.out (by have := HZ1.out; omega)
end Go.Proofs.YtfddibdncniekaaDoor
