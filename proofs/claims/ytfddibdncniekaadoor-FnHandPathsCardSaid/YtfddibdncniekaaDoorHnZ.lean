/- Hands: l23Search in the reference: all states that actions lead to, with their paths. -/
import Derived.Test.YtfddibdncniekaaDoorHnX
import Derived.Test.YtfddibdncniekaaDoorTxB
import Derived.Deep.DeepCutAuto
import Derived.Carry
namespace Go.Proofs.YtfddibdncniekaaDoor
open Go.RowKit
attribute [local go_sem ↓] Go.wp_at_zero Go.wp_at_succ

theorem setS_size (s : ByteArray) : (setS s).size = (fA s 3).length := by show ((fA s 3).toArray).size = _; simp
/-- The states found with the first c actions of the set. -/
def wTo (gs : List Int) (x : Way) (L : List Way) (s : ByteArray) (c : Nat) : List Way := wFold gs x L ((fA s 3).take c)
theorem wTo_zero (gs : List Int) (x : Way) (L : List Way) (s : ByteArray) : wTo gs x L s 0 = L := rfl
theorem wTo_succ {gs : List Int} {x : Way} {L : List Way} {s : ByteArray} {c : Nat} (h : c < (fA s 3).length) : wTo gs x L s (c + 1) = wAdd gs x (wTo gs x L s c) ((fA s 3)[c]) := by
  unfold wTo
  rw [List.take_succ_eq_append_getElem h, wFold_snoc]
theorem wTo_all (gs : List Int) (x : Way) (L : List Way) (s : ByteArray) : wTo gs x L s (fA s 3).length = wFold gs x L (actA s) := by
  unfold wTo; rw [List.take_length, fA_all]
theorem set_at {s : ByteArray} {c : Nat} (h : c < (setS s).size) : kn1 ((setS s)[c]'h) = true ∧ (setS s).extract c (c + 1) = by1 ((setS s)[c]'h) ∧ ∀ gs x L, wTo gs x L s (c + 1) = wAdd gs x (wTo gs x L s c) ((setS s)[c]'h) := by
  have hl : c < (fA s 3).length := by rw [← setS_size]; exact h
  have e : (setS s)[c]'h = (fA s 3)[c]'hl := rfl
  refine ⟨?_, ?_, fun gs x L => ?_⟩
  · rw [e]; exact actA_kn (s := s) (by rw [← fA_all]; exact List.getElem_mem _)
  · rw [ex1 h, bY_eq h]; rfl
  · rw [e]; exact wTo_succ hl
theorem wTo_end (gs : List Int) (x : Way) (L : List Way) (s : ByteArray) : wTo gs x L s (setS s).size = wFold gs x L (actA s) := by rw [setS_size]; exact wTo_all gs x L s
theorem setS_le (s : ByteArray) : (setS s).size ≤ 3 := setF_size s 3
/-- Two rows keep off each other. -/
def Ap2 (u v : Value) : Prop := ∀ k, u.ownBlock = some k → v.ownBlock ≠ some k
theorem SeenH.begin {w : World} {n c : Nat} {M : Array Value} (h1 : M.size = n) (h2 : ∀ c, c < n → M[c]? = some (.bool false)) (hc : c < n) : SeenH (w.alloc (.cells (M.setIfInBounds c (.bool true)) 4)) w.heap.size n [c] := by
  refine ⟨_, Blk.new _ _ _, by simp [h1], fun j hj => ?_⟩
  rw [Array.getElem?_setIfInBounds]
  by_cases e : c = j
  · subst e; rw [if_pos rfl, if_pos (by omega)]; simp
  · rw [if_neg e, h2 j hj]; simp [Ne.symm e]

set_option maxRecDepth 100000 in
set_option maxHeartbeats 8000000 in
theorem l23Search_any (v : Value) (gs : List Int) (h q : Int) (s : ByteArray) (w : World) (hv : Sl w v gs) (hw : whB gs = true) (hx : hsB gs h q = true) (hsz : s.size ≤ 9223372036854775807) :
    Calls Tryd.prog 58 #[.agg #[v], .agg #[.int .i64 h, .int .i64 q], .string s] w fun e w' => ∃ v1 v2, e = .returned (.tuple #[v1, v2]) ∧ w'.ownsRow w.heap.size 28 2 v1 (waysOf gs h q s).length (P64 (stW (waysOf gs h q s))) ∧ w'.ownsRow w.heap.size 9 1 v2 (waysOf gs h q s).length (T64 (waysOf gs h q s)) ∧ Below w.heap.size w w' := by
  obtain ⟨-, h1, h24⟩ := whB_iff.1 hw
  have H2 := Lib.hid (fun (b : UInt8) (x : Int × Int) w' (hb : Below w.heap.size w w') (hx : hsB gs x.1 x.2 = true) (hk : kn1 b = true) => l23Step_any v gs b x w' (hv.below hb) h1 hx hk)
  have HS := Lib.hid (fun w' => l23Set_any s w' hsz)
  have HX := Lib.hid hx
  obtain ⟨A, c, rfl, hac, hac', HA⟩ := hv.open_
  clear hv hw HA
  obtain ⟨n, hn⟩ : ∃ n, n = 12 * gs.length := ⟨_, rfl⟩
  obtain ⟨K, hK⟩ : ∃ K, K = setS s := ⟨_, rfl⟩
  have HKc := Lib.hid (show ∀ c (h : c < K.size), kn1 (K[c]'h) = true ∧ K.extract c (c + 1) = by1 (K[c]'h) ∧ ∀ gs x L, wTo gs x L s (c + 1) = wAdd gs x (wTo gs x L s c) (K[c]'h) by rw [hK]; exact fun c h => set_at h)
  have HKn := Lib.hid (show ∀ gs x L, wTo gs x L s K.size = wFold gs x L (actA s) by rw [hK]; exact fun gs x L => wTo_end gs x L s)
  have hK3 : K.size ≤ 3 := by rw [hK]; exact setS_le s
  have HKe := Lib.hid hK
  obtain ⟨M, hM1, hM2, hmk⟩ := mkH n (by omega)
  have HM1 := Lib.hid hM1
  have HM2 := Lib.hid hM2
  clear hM1 hM2 hx hK
  go_enter Tryd.func58, Tryd.ntmps58
  obtain ⟨k0, k1⟩ := bx2 w 31 28 #[.slice A gs.length c] #[.int .i64 h, .int .i64 q]
  have HK0 := Lib.hid k0
  have HK1 := Lib.hid k1
  clear k0 k1
  go_wp2_with fail
  refine (HS.out _).mono ?_
  rintro e w1 ⟨rfl, hb1⟩
  rw [← HKe.out]
  have J0 := Lib.hid (HK0.out.below hb1)
  have J1 := Lib.hid (HK1.out.below hb1)
  have q0 := J0.out.cell 0 rfl
  have q2 := J1.out.cell 0 rfl
  have q3 := J1.out.cell 1 rfl
  have z1 := J1.out.lt
  have B1 : Below w.heap.size w w1 := Below.trans (by go_grown) (hb1.mono (by simp; omega))
  have hcd : h * (gs.length : Int) + q = (cdH gs.length (h, q) : Int) := cdH_int (y := (h, q)) HX.out
  obtain ⟨hm1, hm2⟩ : 0 ≤ h * (gs.length : Int) ∧ h * (gs.length : Int) ≤ 264 := mul_in (y := (h, q)) h24 HX.out
  have hcl : cdH gs.length (h, q) < n := by rw [hn]; exact cdH_lt (x := (h, q)) HX.out
  obtain ⟨c0, hc0⟩ : ∃ c0, c0 = cdH gs.length (h, q) := ⟨_, rfl⟩
  rw [← hc0] at hcd hcl
  have e12 : 12 * (gs.length : Int) = (n : Int) := by omega
  have HN := Lib.hid hn
  have hn288 : n ≤ 288 := by omega
  have hn1 : 1 ≤ n := by omega
  have zk : w.heap.size < w1.heap.size := by omega
  have HC0 := Lib.hid hc0
  have HB1 := Lib.hid B1
  have HZ1 := Lib.hid z1
  clear hb1 HK0 HK1 hc0 B1 hn
  have zk2 : w1.heap.size < (w1.alloc (.cells M 4)).heap.size := by simp
  have km := Blk.new w1 4 M
  have q4 : (w1.alloc (.cells M 4)).cell? ⟨w1.heap.size, c0, none⟩ = some (.bool false) := km.cell c0 (HM2.out c0 hcl)
  have f4 : (w1.alloc (.cells M 4)).frozen? ⟨w1.heap.size, c0, none⟩ = false := km.frozen c0
  have HKM := Lib.hid km
  have hcl' : (c0 : Int) < (n : Int) := by omega
  clear km
  go_upto_region 3 with fail
  go_cut [] (fun wr => SeenH wr w1.heap.size n [c0] ∧ Blk wr w.heap.size 31 #[.slice A gs.length c] ∧ Blk wr (w.heap.size + 1) 28 #[.int .i64 h, .int .i64 q] ∧ w1.heap.size < wr.heap.size ∧ Below w.heap.size w wr)
  case first =>
    go_wp2_with fail
    go_meet
    exact ⟨SeenH.begin HM1.out HM2.out hcl, J0.out.alloc _, J1.out.alloc _, by simp, HB1.out.alloc (by omega) _⟩
  case rest =>
    obtain ⟨w2, rfl⟩ : ∃ y : World, y = wc := ⟨_, rfl⟩
    obtain ⟨hse, j0, j1, z2, B2⟩ := hcut
    clear q0 q2 q3 J0 J1 hmk HM1 HM2 HKM q4 f4 zk2
    have q0 := j1.cell 0 rfl
    have q1 := j1.cell 1 rfl
    have zz := j1.lt
    have HSe := Lib.hid hse
    have P0 := Lib.hid j0
    have HB2 := Lib.hid B2
    have HH1 := Lib.hid h1
    obtain ⟨R, hR⟩ : ∃ R, R = waysOf gs h q s := ⟨_, rfl⟩
    have HR := Lib.hid hR
    clear hse j0 j1 B2 hR hm1 hm2 hcd e12
    have HO1 : Hid (((w2.alloc (.cells #[.int .i64 h, .int .i64 q] 28)).alloc (.cells #[.string ⟨#[]⟩] 9)).ownsRow w2.heap.size 28 2 (.slice (some ⟨w2.heap.size, 0, none⟩) 1 1) 1 (P64 (stW [((h, q), ⟨#[]⟩)]))) :=
      World.ownsRow.alloc (World.ownsRow_lit w2 #[.int .i64 h, .int .i64 q] 1 (Nat.le_refl _) (by decide) rfl) _
    have HO2 : Hid (((w2.alloc (.cells #[.int .i64 h, .int .i64 q] 28)).alloc (.cells #[.string ⟨#[]⟩] 9)).ownsRow w2.heap.size 9 1 (.slice (some ⟨w2.heap.size + 1, 0, none⟩) 1 1) 1 (T64 [((h, q), ⟨#[]⟩)])) := by
      have := World.ownsRow_lit (base := w2.heap.size) (w2.alloc (.cells #[.int .i64 h, .int .i64 q] 28)) (e := 9) (size := 1) #[.string ⟨#[]⟩] 1 (by simp) (by decide) rfl
      rwa [World.size_alloc] at this
    go_wp2_with fail
    go_loopw [10, 11, 12] (fun x10 x11 a12 wr => ∃ (L : List Way) (i : Nat), a12 = .int .i64 (i : Int) ∧ i ≤ L.length ∧ Hid (WSt gs (actA s) (h, q) L) ∧ Hid (waysR gs (actA s) (12 * gs.length + 1 - i) L i = R) ∧ wr.ownsRow w2.heap.size 28 2 x10 L.length (P64 (stW L)) ∧ wr.ownsRow w2.heap.size 9 1 x11 L.length (T64 L) ∧ Hid (Ap2 x10 x11) ∧ Hid (SeenH wr w1.heap.size n (cdW gs.length L)) ∧ Hid (Blk wr w.heap.size 31 #[.slice A gs.length c]) ∧ Hid (Below w.heap.size w wr)) (fun _ _ a _ => 12 * gs.length + 1 - (intOf a).toNat)
    case atStart =>
      refine ⟨[((h, q), ⟨#[]⟩)], 0, rfl, by simp, Lib.hid (WSt.begin HX.out), Lib.hid HR.out.symm, HO1.out, HO2.out, Lib.hid ?_, Lib.hid ((HSe.out.alloc _).alloc _ |> fun h => by rw [HC0.out] at h; exact h), Lib.hid ((P0.out.alloc _).alloc _), Lib.hid ((HB2.out.alloc (by omega) _).alloc (by simp; omega) _)⟩
      intro k hk e
      have h1 : w2.heap.size = k := by simpa [Value.ownBlock] using hk
      have h2 : w2.heap.size + 1 = k := by simpa [Value.ownBlock] using e
      omega
    case round =>
      obtain ⟨L, i, rfl, hil, hst, hrr, ho1, ho2, hap, hse, hb0, hB⟩ := hrel
      obtain ⟨wo, rfl⟩ : ∃ y : World, y = wr := ⟨_, rfl⟩
      clear P0 HO1 HO2 HB2 HSe q0 q1
      have hcnt := hst.out.count
      obtain ⟨b1, c1, rfl, hb11, hb12, hc11, hc12, hcl1⟩ := own_sts ho1 hst.out.pos
      obtain ⟨b2, c2, rfl, hb21, hb22, hc21, hc22, hcl2⟩ := own_txt ho2 hst.out.pos
      have HO1 := Lib.hid ho1
      have HO2 := Lib.hid ho2
      clear ho1 ho2
      simp only [maxLen] at hc12 hc22
      by_cases hi : i < L.length
      · have hi2 : (i : Int) < (L.length : Int) := by omega
        obtain ⟨x, hxe⟩ : ∃ x, x = pw L i := ⟨_, rfl⟩
        have HXV := Lib.hid (show hsB gs x.1.1 x.1.2 = true from hst.out.valid x (by rw [hxe]; exact pw_mem hi))
        have HXe := Lib.hid hxe
        have hxs : x.2.size ≤ 288 := by have := hst.out.size i hi; rw [← hxe] at this; omega
        have HRR := Lib.hid (show waysR gs (actA s) (12 * gs.length + 1 - (i + 1)) (wFold gs x L (actA s)) (i + 1) = R by
          have := hrr.out
          rw [show 12 * gs.length + 1 - i = (12 * gs.length + 1 - (i + 1)) + 1 by omega, waysR_step hi, ← hxe] at this
          exact this)
        have HNX := Lib.hid (show ∀ c, WSt gs (actA s) (h, q) (wTo gs x L s c) ∧ ∃ T, wTo gs x L s c = L ++ T from fun c => by
          have := hst.out.fold HH1.out hi ((fA s 3).take c) (fun b hb => by rw [← fA_all]; exact List.mem_of_mem_take hb)
          rw [← hxe] at this
          exact ⟨this.1, this.2.1⟩)
        clear hxe hcl1 hcl2
        go_wp2_with fail
        go_loopw [10, 11, 13] (fun x10 x11 a13 wi => ∃ j : Nat, j ≤ K.size ∧ a13 = .int .i64 (j : Int) ∧ wi.ownsRow w2.heap.size 28 2 x10 (wTo gs x L s j).length (P64 (stW (wTo gs x L s j))) ∧ wi.ownsRow w2.heap.size 9 1 x11 (wTo gs x L s j).length (T64 (wTo gs x L s j)) ∧ Hid (Ap2 x10 x11) ∧ Hid (SeenH wi w1.heap.size n (cdW gs.length (wTo gs x L s j))) ∧ Hid (Blk wi w.heap.size 31 #[.slice A gs.length c]) ∧ Hid (Below w.heap.size w wi)) (fun _ _ a _ => 3 - (intOf a).toNat)
        case atStart => exact ⟨0, by omega, by go_num, by rw [wTo_zero]; exact HO1.out, by rw [wTo_zero]; exact HO2.out, hap, by rw [wTo_zero]; exact hse, hb0, hB⟩
        case round =>
          obtain ⟨j, hj, rfl, ho1, ho2, hap, hse, hb0, hB⟩ := hrel
          obtain ⟨wi, rfl⟩ : ∃ y : World, y = wr := ⟨_, rfl⟩
          clear HO1 HO2
          obtain ⟨hstM, T, hT⟩ := HNX.out j
          obtain ⟨M2, hM⟩ : ∃ M2, M2 = wTo gs x L s j := ⟨_, rfl⟩
          rw [← hM] at ho1 ho2 hse hstM hT
          have hcM := hstM.count
          have hiM : i < M2.length := by rw [hT, List.length_append]; omega
          have hxM : pw M2 i = x := by rw [hT, pw_left hi]; exact HXe.out.symm
          obtain ⟨b1, c1, rfl, hb11, hb12, hc11, hc12, hcl1⟩ := own_sts ho1 hstM.pos
          obtain ⟨b2, c2, rfl, hb21, hb22, hc21, hc22, hcl2⟩ := own_txt ho2 hstM.pos
          have HO1 := Lib.hid ho1
          have HO2 := Lib.hid ho2
          have HST := Lib.hid hstM
          have HMe := Lib.hid hM
          clear ho1 ho2 hstM hM hT
          simp only [maxLen] at hc12 hc22
          by_cases hj2 : j < K.size
          · have hj3 : (j : Int) < (K.size : Int) := by omega
            obtain ⟨d0, d1⟩ := hcl1.out i hiM
            have d2 := hcl2.out i hiM
            rw [hxM] at d0 d1 d2
            obtain ⟨hkn, hke, hkw⟩ := HKc.out j hj2
            obtain ⟨E, hE⟩ : ∃ E, K.extract j (j + 1) = E := ⟨_, rfl⟩
            rw [hE] at hke
            obtain ⟨y, hy⟩ : ∃ y, y = stpB gs (K[j]'hj2) x.1 := ⟨_, rfl⟩
            have H3 := Lib.hid (show ∀ w', Below w.heap.size w w' → Calls Tryd.prog 54 #[.agg #[.slice A gs.length c], .agg #[.int .i64 x.1.1, .int .i64 x.1.2], .int .u8 (K[j]'hj2).toNat] w' fun e w'' => e = .returned (.tuple #[.agg #[.int .i64 y.1, .int .i64 y.2], .int .i64 (stpN gs (K[j]'hj2) x.1)]) ∧ Below w'.heap.size w' w'' from fun w' hb' => by rw [hy]; exact H2.out _ x.1 w' hb' HXV.out hkn)
            have hyv : hsB gs y.1 y.2 = true := by rw [hy]; exact stpB_in HH1.out _ HXV.out
            have HYV := Lib.hid hyv
            have HW := Lib.hid (show wTo gs x L s (j + 1) = wAdd gs x M2 (K[j]'hj2) by rw [hkw, ← HMe.out])
            have HKE := Lib.hid hke
            have HY := Lib.hid hy
            have zb := hb0.out.lt
            have HSr := Lib.hid (fun (w' : World) (hw : Below wi.heap.size wi w') => (⟨(hb0.out.below hw).cell 0 rfl, (hw.cell (p := ⟨b1, i * 2, none⟩) hb12).trans d0, (hw.cell (p := ⟨b1, i * 2 + 1, none⟩) hb12).trans d1⟩ : w'.cell? ⟨w.heap.size, 0, none⟩ = some (.slice A gs.length c) ∧ w'.cell? ⟨b1, i * 2, none⟩ = some (.int .i64 x.1.1) ∧ w'.cell? ⟨b1, i * 2 + 1, none⟩ = some (.int .i64 x.1.2)))
            have D2 := Lib.hid d2
            have hiM2 : (i : Int) < (M2.length : Int) := by omega
            have q0 := hb0.out.cell 0 rfl
            clear hkn hke hkw hy hyv hcl1 hcl2 d2 hxM
            go_upto_region 12 with fail
            go_cut [14, 15] (fun a14 a15 wq => ∃ g : Nat, a14 = .pointer (some ⟨g, 0, none⟩) ∧ a15 = .int .i64 (stpN gs (K[j]'hj2) x.1) ∧ wi.heap.size ≤ g ∧ g < wq.heap.size ∧ wq.cell? ⟨g, 0, none⟩ = some (.int .i64 y.1) ∧ wq.cell? ⟨g, 1, none⟩ = some (.int .i64 y.2) ∧ Below wi.heap.size wi wq)
            case first =>
              go_region_held3 (fun w' => w'.cell? ⟨w.heap.size, 0, none⟩ = some (.slice A gs.length c) ∧ w'.cell? ⟨b1, i * 2, none⟩ = some (.int .i64 x.1.1) ∧ w'.cell? ⟨b1, i * 2 + 1, none⟩ = some (.int .i64 x.1.2)) (first | assumption | (refine HSr.out _ ?_; go_grown; done) | ((try dsimp only); (repeat' apply And.intro) <;> (first | assumption | (simp [go_sem, *]; done))) | go_keep)
                (first
                  | (go_at_call 54; refine (H3.out _ (grown_again hB.out (by first | exact Below.refl _ _ | go_grown))).mono ?_; rintro e w3 ⟨rfl, hb2⟩; have B3 : Below wi.heap.size wi w3 := Below.trans (by first | exact Below.refl _ _ | go_grown) (hb2.mono (by first | exact Nat.le_refl _ | (simp [go_sem]; done) | (simp [go_sem]; omega))); have S3 := HSr.out w3 B3; have y3 := B3.size; obtain ⟨hc3, hf3⟩ := bcell hb2; (try (have a3 : wi.heap.size < w3.heap.size := Nat.lt_of_lt_of_le (by first | assumption | (simp [go_sem]; done) | (simp only [go_sem]; omega) | (simp [go_sem]; omega)) hb2.size)); clear hb2))
              all_goals (go_wp2_with fail; go_meet)
              all_goals refine ⟨_, rfl, rfl, ?_, ?_, ?_, ?_, ?_⟩
              all_goals first
                | (with_reducible exact Nat.le_refl _) | (with_reducible assumption)
                | (go_grown; done)
                | (simp [go_sem, *]; done)
                | (simp; omega)
            case rest =>
              obtain ⟨w3, rfl⟩ : ∃ y : World, y = wc := ⟨_, rfl⟩
              obtain ⟨g, rfl, rfl, hg1, hg2, e0, e1, hb3⟩ := hcut
              have HSe3 := Lib.hid (hse.out.below hb3)
              have P3 := Lib.hid (hb0.out.below hb3)
              have HB3 := Lib.hid (hB.out.trans (hb3.mono hB.out.size))
              have O31 := Lib.hid (own_below HO1.out hb3)
              have O32 := Lib.hid (own_below HO2.out hb3)
              have D32 := Lib.hid ((hb3.cell (p := ⟨b2, i, none⟩) hb22).trans D2.out)
              have q0 := P3.out.cell 0 rfl
              have hcd : y.1 * (gs.length : Int) + y.2 = (cdH gs.length y : Int) := cdH_int HYV.out
              obtain ⟨hm1, hm2⟩ := mul_in h24 HYV.out
              have hcl : cdH gs.length y < n := by rw [HN.out]; exact cdH_lt HYV.out
              obtain ⟨cy, hcy⟩ : ∃ cy, cy = cdH gs.length y := ⟨_, rfl⟩
              rw [← hcy] at hcd hcl
              have hcl3 : (cy : Int) < (n : Int) := by omega
              have z3 := hb3.size
              have zs := hse.out.lt
              clear hb3 HSr HO1 HO2 D2
              by_cases hin : y ∈ M2.map Prod.fst
              · have q5 : w3.cell? ⟨w1.heap.size, cy, none⟩ = some (.bool true) := by
                  rw [HSe3.out.cell hcl, hcy, decide_eq_true ((cdW_iff HST.out HYV.out).2 hin)]
                have HE := Lib.hid (show wTo gs x L s (j + 1) = M2 by rw [HW.out, wAdd_in (by rw [← HY.out]; exact hin)])
                clear hin hcy
                go_wp2_with fail
                go_roundw
                case rel => exact ⟨j + 1, by omega, by go_num, by rw [HE.out]; exact O31.out, by rw [HE.out]; exact O32.out, hap, by rw [HE.out]; exact HSe3, P3, HB3⟩
                case measure => simp [intOf]; omega
              · have q5 : w3.cell? ⟨w1.heap.size, cy, none⟩ = some (.bool false) := by
                  rw [HSe3.out.cell hcl, hcy, decide_eq_false (fun h => hin ((cdW_iff HST.out HYV.out).1 h))]
                have HE := Lib.hid (show wTo gs x L s (j + 1) = M2 ++ [(y, x.2 ++ E)] by rw [HW.out, HKE.out, wAdd_out (by rw [← HY.out]; exact hin), ← HY.out])
                have HCy := Lib.hid hcy
                have f5 := HSe3.out.frozen cy
                have hks : (E).size = 1 := by rw [HKE.out]; rfl
                have hj4 : (j : Int) + 1 ≤ (K.size : Int) := by omega
                clear hin hcy
                go_upto_region 16 with fail
                obtain ⟨ws, hws⟩ : ∃ ws : World, ws = w3.setCell ⟨w1.heap.size, cy, none⟩ (.bool true) := ⟨_, rfl⟩
                have ez : ws.heap.size = w3.heap.size := by rw [hws]; simp
                have HSe4 : Hid (SeenH ws w1.heap.size n (cdW gs.length (M2 ++ [(y, x.2 ++ E)]))) := by
                  rw [hws, cdW_append]
                  have := HSe3.out.mark hcl
                  rw [HCy.out] at this ⊢
                  exact this
                have P4 : Hid (Blk ws w.heap.size 31 #[.slice A gs.length c]) := by rw [hws]; exact P3.out.far (by simp; omega) _
                have HB4 : Hid (Below w.heap.size w ws) := by rw [hws]; exact HB3.out.setCell (by simp; omega) _
                have O41 : Hid (ws.ownsRow w2.heap.size 28 2 (.slice (some ⟨b1, 0, none⟩) M2.length c1) M2.length (P64 (stW M2))) := by rw [hws]; exact own_far O31.out (by simp [Value.ownBlock]; omega) _
                have O42 : Hid (ws.ownsRow w2.heap.size 9 1 (.slice (some ⟨b2, 0, none⟩) M2.length c2) M2.length (T64 M2)) := by rw [hws]; exact own_far O32.out (by simp [Value.ownBlock]; omega) _
                have D4 : Hid (ws.cell? ⟨b2, i, none⟩ = some (.string x.2)) := by
                  refine Lib.hid ?_
                  rw [hws]
                  have := D32.out
                  simp [go_sem, this]
                have ne1 : ¬ w1.heap.size = g := by omega
                have ne2 : ¬ g = w1.heap.size := by omega
                have s0 : ws.cell? ⟨g, 0, none⟩ = some (.int .i64 y.1) := by rw [hws]; simp [go_sem, *]
                have s1 : ws.cell? ⟨g, 1, none⟩ = some (.int .i64 y.2) := by rw [hws]; simp [go_sem, *]
                have hap1 : b2 ≠ b1 := fun e => hap.out b1 rfl (by rw [e]; rfl)
                rw [← hws]
                have HP1 := Lib.hid hap1
                have hM2l : M2.length ≤ 134217728 := by omega
                have hb2s : b2 < ws.heap.size := by omega
                clear hws e0 e1 f5 q5 q0 HSe3 P3 HB3 O31 O32 D32 hcd hm1 hm2 hap1
                go_wp2_with (at_builtin; refine wpList_appS rfl _ _ rfl w2.heap.size (.slice (some ⟨b1, 0, none⟩) M2.length c1) M2 rfl O41.out (y, x.2 ++ E) w3.heap.size rfl ez hM2l (by omega) ?_; intro v6 w6 ho6 hb6 hg6 hk6; have O61 := Lib.hid ho6; have O62 := Lib.hid (O42.out.kept hg6 (Or.inr (fun e => HP1.out (Option.some.inj e)))); have d6 : w6.cell? ⟨b2, i, none⟩ = _ := hg6.cell D4.out (fun e => HP1.out (Option.some.inj e)); have D6 := Lib.hid d6; have HB6 := Lib.hid hb6; have HG6 := Lib.hid hg6; have HK6 := Lib.hid hk6; have z6 := hg6.size; clear ho6 hb6 hg6 hk6)
                have hb2l : b2 < w6.heap.size := by omega
                have HSr6 := Lib.hid (fun (w' : World) (hw : Below w6.heap.size w6 w') => ((hw.cell (p := ⟨b2, i, none⟩) hb2l).trans D6.out : w'.cell? ⟨b2, i, none⟩ = some (.string x.2)))
                have hsz1 : ¬ 9223372036854775807 < x.2.size + 1 := by omega
                have hbase : w2.heap.size ≤ w6.heap.size := by omega
                have i1 : IntKind.i64.wrap ((j : Int) + 1) = (j : Int) + 1 := IntWalk.i64_in _ (by omega)
                have i2 : (0 : Int) ≤ (j : Int) := by omega
                have i3 : (j : Int) ≤ (j : Int) + 1 := by omega
                have i4 : (0 : Int) ≤ (j : Int) + 1 := by omega
                have i5 : ((j : Int) + 1).toNat = j + 1 := by omega
                have i6 : (j : Int) ≤ (K.size : Int) := by omega
                clear s0 s1 ez ne1 ne2
                go_region_law ((refine step_appT rfl _ _ (by rfl) w2.heap.size (.slice (some ⟨b2, 0, none⟩) M2.length c2) M2 (by rfl) (by first | exact (O62.out.alloc _).drew | exact O62.out.alloc _) (y, x.2 ++ E) w6.heap.size (by rfl) (heap_alloc_new w6 _) hM2l (by simp; omega) ?_; intro b7 c7 w7 ho7 hb7 hg7 hk7))
                have B67 : Below w2.heap.size w6 w7 := Below.trans (by go_grown) hb7
                have B47 : Below w2.heap.size ws w7 := HB6.out.trans B67
                have O71 := Lib.hid (((O61.out.alloc (.cells #[.string (x.2 ++ E)] 9)).drew).kept hg7 (Or.inr fun e => by
                  rcases HK6.out with h | h
                  · rw [h] at e; exact HP1.out (Option.some.inj e).symm
                  · rw [h] at e
                    have : ws.heap.size + 1 = b2 := Option.some.inj e
                    omega))
                have O72 := Lib.hid ho7
                have HAP : Hid (Ap2 v6 (.slice (some ⟨b7, 0, none⟩) (M2.length + 1) c7)) := by
                  refine Lib.hid fun k hk e => ?_
                  have e7 : b7 = k := by simpa [Value.ownBlock] using e
                  have hkl := (O61.out.lt k hk).2
                  rcases hk7 with h7 | h7
                  · have h8 : b2 = b7 := by simpa [Value.ownBlock] using h7
                    rcases HK6.out with h | h
                    · rw [hk] at h
                      have : k = b1 := by simpa [Value.ownBlock] using h
                      exact HP1.out (by omega)
                    · rw [hk] at h
                      have : k = ws.heap.size + 1 := by simpa using h
                      omega
                  · simp at h7; omega
                have HSe7 := Lib.hid (HSe4.out.belowB B47 z2)
                have P7 := Lib.hid (P4.out.belowB B47 (by omega))
                have HB7 := Lib.hid (HB4.out.trans (B47.mono (by omega)))
                clear hb7 hg7 hk7 ho7 B67 B47 i1 i5
                go_wp2_with fail
                go_roundw
                case rel =>
                  refine ⟨j + 1, by omega, by go_num, ?_, ?_, HAP, ?_, P7, HB7⟩
                  · rw [HE.out]; exact O71.out
                  · rw [HE.out]; have := O72.out; simpa using this
                  · rw [HE.out]; exact HSe7
                case measure => simp [intOf]; omega
          · obtain rfl : j = K.size := by omega
            have HE := Lib.hid (show M2 = wFold gs x L (actA s) by rw [HMe.out, HKn.out])
            clear hcl1 hcl2
            go_wp2_with fail
            go_roundw
            case rel =>
              refine ⟨M2, i + 1, by go_num, by omega, HST, ?_, HO1.out, HO2.out, hap, hse, hb0, hB⟩
              have := HRR.out
              rw [← HE.out] at this
              exact Lib.hid this
            case measure => simp [intOf]; omega
      · obtain rfl : i = L.length := by omega
        have e : L = R := by have := hrr.out; rwa [waysR_end] at this
        have HE := Lib.hid e
        clear e hcl1 hcl2
        go_wp2_with fail
        go_ret2
        refine ⟨_, _, rfl, ?_, ?_, hB.out⟩
        · rw [← HR.out, ← HE.out]
          exact own_mono HO1.out (by omega)
        · rw [← HR.out, ← HE.out]
          exact own_mono HO2.out (by omega)
end Go.Proofs.YtfddibdncniekaaDoor
