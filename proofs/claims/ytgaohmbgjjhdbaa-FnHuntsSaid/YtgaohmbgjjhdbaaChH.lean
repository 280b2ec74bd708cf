/- Chimes: the rows of a plain hunt, in the program and in the reference. -/
import Derived.Test.YtgaohmbgjjhdbaaRwB
import Derived.Test.YtgaohmbgjjhdbaaApA
import Derived.Lib.SliceRun
import Derived.Deep.RegionLaw
namespace Go.Proofs.Ytgaohmbgjjhdbaa
open Go.RowKit
attribute [local go_sem ↓] Go.wp_at_zero Go.wp_at_succ

/-- Two neighbours change places. -/
theorem eql_nil (a : Option Addr) (n c : Nat) (w : World) : (binOp .eql 60 (.slice a n c) (.slice none 0 0)).run Try.prog w = .ok (.bool a.isNone) w := Lib.run_eql_slice_nil w _ _ a n c 0 0 Try.underlying60
attribute [local go_sem ↓] eql_nil
def swp (r : List Int) (k : Nat) : List Int := (r.set k (ix r (k + 1))).set (k + 1) (ix r k)
def swA (r : List Int) (k0 : Nat) : Nat → List Int
  | 0 => r
  | c + 1 => swp (swA r k0 c) (k0 + 2 * c)
def hr (n : Nat) : Nat → List Int
  | 0 => runUp 0 n
  | m + 1 => swA (hr n m) ((m + 2) % 2) ((n - (m + 2) % 2) / 2)
theorem swA_length (r : List Int) (k0 c : Nat) : (swA r k0 c).length = r.length := by
  induction c with
  | zero => rfl
  | succ c ih => rw [swA, swp, List.length_set, List.length_set, ih]
theorem hr_length (n m : Nat) : (hr n m).length = n := by
  induction m with
  | zero => exact runUp_length _ _
  | succ m ih => rw [hr, swA_length, ih]
theorem I64_set2 (xs : List Int) (i : Nat) (x : Int) : (I64 xs).set i (.int .i64 x) = I64 (xs.set i x) := by simp [I64, List.map_set]
theorem own_lit0 {base : Nat} (w : World) (H : Nat) (hH : w.heap.size = H) (hb : base ≤ H) (t : TypeId) : (w.alloc (.cells #[] t)).ownsRow base t 1 (.slice (some ⟨H, 0, none⟩) 0 0) ([] : List Int).length (I64 []) := own_lit w H hH hb t

set_option maxHeartbeats 2000000 in
theorem Clone_any (g c : Nat) (xs : List Int) (w : World) (hv : Sl w (.slice (some ⟨g, 0, none⟩) xs.length c) xs) (hn : xs.length ≤ 1000) :
    Calls Try.prog 75 #[.slice (some ⟨g, 0, none⟩) xs.length c] w fun e w' => ∃ v', e = .returned v' ∧ w'.ownsRow w.heap.size 2 1 v' xs.length (I64 xs) ∧ Below w.heap.size w w' := by
  have HV := Lib.hid (hv.below (w' := w.alloc (.cells #[] 2)) (by go_grown))
  have HO := Lib.hid (own_lit0 (base := w.heap.size) w w.heap.size rfl (Nat.le_refl _) 2)
  clear hv
  go_enter Try.func75, Try.ntmps75
  go_wp2_with (at_builtin; refine wpList_appG (by first | rfl | (simp [Region.wanted, yielded]; done)) _ _ rfl w.heap.size _ [] rfl HO.out _ rfl xs HV.out xs rfl (by decide) (by omega) (by simp) ?_; intro v' w1 ho hb hg; have HO1 := Lib.hid ho; have HB1 : Hid (Below w.heap.size w w1) := (Below.trans (by go_grown) hb); clear ho hb hg)
  go_ret
  exact ⟨_, rfl, HO1.out, HB1.out⟩
set_option maxHeartbeats 2000000 in
theorem l00Own_any (g c : Nat) (xs : List Int) (w : World) (hv : Sl w (.slice (some ⟨g, 0, none⟩) xs.length c) xs) (hn : xs.length ≤ 1000) :
    Calls Try.prog 93 #[.slice (some ⟨g, 0, none⟩) xs.length c] w fun e w' => ∃ v', e = .returned v' ∧ w'.ownsRow w.heap.size 2 1 v' xs.length (I64 xs) ∧ Below w.heap.size w w' := by
  have HV := Lib.hid (hv.below (w' := w.alloc (.cells #[] 2)) (by go_grown))
  have HO := Lib.hid (own_lit0 (base := w.heap.size) w w.heap.size rfl (Nat.le_refl _) 2)
  clear hv
  go_enter Try.func93, Try.ntmps93
  go_wp2_with (at_builtin; refine wpList_appG (by first | rfl | (simp [Region.wanted, yielded]; done)) _ _ rfl w.heap.size _ [] rfl HO.out _ rfl xs HV.out xs rfl (by decide) (by omega) (by simp) ?_; intro v' w1 ho hb hg; have HO1 := Lib.hid ho; have HB1 : Hid (Below w.heap.size w w1) := (Below.trans (by go_grown) hb); clear ho hb hg)
  go_ret
  exact ⟨_, rfl, HO1.out, HB1.out⟩
theorem rows_nil (w : World) (base : Nat) (L : Nat → List Int) : RowsAt w base (.slice none 0 0) 0 L := ⟨[], World.ownsRow_nil _ _ _ _, fun i hi => absurd hi (Nat.not_lt_zero _), fun i j u u' _ h => by simp at h⟩
theorem rows_one {w : World} {base : Nat} {u : Value} {L : Nat → List Int} (hu : w.ownsRow base 2 1 u (L 0).length (I64 (L 0))) (hb : base ≤ w.heap.size) : RowsAt (w.alloc (.cells #[u] 60)) base (.slice (some ⟨w.heap.size, 0, none⟩) 1 1) 1 L := by
  refine ⟨[u], World.ownsRow_lit w #[u] 1 hb (by decide) rfl, fun i hi => ?_, fun i j x y hij hx hy => ?_⟩
  · obtain rfl : i = 0 := by omega
    refine ⟨u, rfl, hu.alloc _, fun b h1 h2 => ?_⟩
    have := (hu.lt b h1).2
    simp [Value.ownBlock] at h2
    omega
  · have h1 := (List.getElem?_eq_some_iff.1 hx).1
    have h2 := (List.getElem?_eq_some_iff.1 hy).1
    simp at h1 h2; omega
/-- Two stores into a row that the call owns. -/
theorem own_swap {w : World} {base b c : Nat} {r : List Int} {k : Nat} (h : w.ownsRow base 2 1 (.slice (some ⟨b, 0, none⟩) r.length c) r.length (I64 r)) :
    ((w.setCell ⟨b, k, none⟩ (.int .i64 (ix r (k + 1)))).setCell ⟨b, k + 1, none⟩ (.int .i64 (ix r k))).ownsRow base 2 1 (.slice (some ⟨b, 0, none⟩) r.length c) r.length (I64 (swp r k)) := by
  have h1 := (h.stored k (.int .i64 (ix r (k + 1)))).1
  have h2 := (h1.stored (k + 1) (.int .i64 (ix r k))).1
  rw [I64_set2, I64_set2] at h2
  exact h2

set_option maxHeartbeats 2000000 in
theorem PlainHunt_i1 (n : Int) (w : World) (h : inB n 3 8 = false) :
    Calls Try.prog 38 #[.int .i64 n] w fun e w' => ∃ v', e = .returned (.tuple #[v', .int .i64 2]) ∧ RowsAt w' w.heap.size v' 0 (hr 0) ∧ Below w.heap.size w w' := by
  have H := Lib.hid (fun w => within_r n 3 8 _ w h)
  clear h
  go_enter Try.func38, Try.ntmps38
  go_wp2_with fail
  refine (H.out _).mono ?_
  rintro e w' ⟨rfl, rfl⟩
  go_wp2
  go_ret2
  exact ⟨_, rfl, rows_nil _ _ _, Below.refl _ _⟩
set_option maxHeartbeats 2000000 in
theorem PlainHunt_s1 (n : Int) (w : World) (h : inB n 3 8 = false) :
    Calls Try.prog 39 #[.int .i64 n] w fun e w' => ∃ v', e = .returned (.tuple #[v', .int .i64 2]) ∧ RowsAt w' w.heap.size v' 0 (hr 0) ∧ Below w.heap.size w w' := by
  have H := Lib.hid (fun w => l00In_r n 3 8 _ w h)
  clear h
  go_enter Try.func39, Try.ntmps39
  go_wp2_with fail
  refine (H.out _).mono ?_
  rintro e w' ⟨rfl, rfl⟩
  go_wp2
  go_ret2
  exact ⟨_, rfl, rows_nil _ _ _, Below.refl _ _⟩
set_option maxRecDepth 100000 in
set_option maxHeartbeats 16000000 in
theorem PlainHunt_i0 (N : Nat) (w : World) (h1 : 3 ≤ N) (h2 : N ≤ 8) :
    Calls Try.prog 38 #[.int .i64 (N : Int)] w fun e w' => ∃ v', e = .returned (.tuple #[v', .int .i64 0]) ∧ RowsAt w' w.heap.size v' (2 * N) (hr N) ∧ Below w.heap.size w w' := by
  have H := Lib.hid (fun w => within_r (N : Int) 3 8 true w (inB_t (by omega) (by omega)))
  have HCL := Lib.hid (fun g c xs w hv hn => Clone_any g c xs w hv hn)
  obtain ⟨i0, hi, hz0, hz1, hz2⟩ := info_parts rows_info
  go_enter Try.func38, Try.ntmps38
  go_wp2_with fail
  refine (H.out _).mono ?_
  rintro e w' ⟨rfl, rfl⟩
  go_wp2_with fail
  go_loopw [4, 5] (fun v i wr => ∃ j : Nat, j ≤ N ∧ i = .int .i64 j ∧ wr.ownsRow w.heap.size 2 1 v (runUp 0 j).length (I64 (runUp 0 j)) ∧ Below w.heap.size w wr) (fun _ i _ => N - (intOf i).toNat)
  case atStart => exact ⟨0, Nat.zero_le _, rfl, World.ownsRow_nil _ _ _ _, by go_grown⟩
  case round =>
    obtain ⟨j, hj, rfl, hown, hB⟩ := hrel
    have HO := Lib.hid hown
    have hsz := hB.size
    obtain ⟨Ar, cr, rfl⟩ := own_form hown
    clear hown
    by_cases hlt : j < N
    · have i1 : (j : Int) < (N : Int) := by omega
      have hll : (runUp 0 j).length ≤ 134217728 := by rw [runUp_length]; omega
      have hE : runUp 0 (j + 1) = runUp 0 j ++ [(j : Int)] := by rw [runUp_succ]; simp
      have HE := Lib.hid hE
      clear hE
      go_wp2_with (at_builtin; refine wpList_app1g rfl _ _ rfl w.heap.size _ (runUp 0 j) rfl HO.out _ wr.heap.size rfl rfl hll hsz ?_; intro v' w4 hown' hb' hg'; have O4 := Lib.hid hown'; have B4 := Lib.hid (hB.trans hb'); clear hown' hb' hg')
      go_roundw
      case rel => exact ⟨j + 1, by omega, by go_num, by rw [HE.out]; exact O4.out, B4.out⟩
      case measure => simp [intOf]; omega
    · obtain rfl : j = N := by omega
      have hrl : (runUp 0 j).length = j := runUp_length 0 j
      obtain ⟨gr, cr', hA, _⟩ := HO.out.form (by omega)
      injection hA with e1 e2 e3
      subst e1 e3
      have HR1 : Hid (RowsAt (wr.alloc (.cells #[.slice (some ⟨gr, 0, none⟩) (runUp 0 j).length cr] 60)) w.heap.size (.slice (some ⟨wr.heap.size, 0, none⟩) 1 1) 1 (hr j)) := rows_one (L := hr j) HO.out hsz
      have HO1 : Hid ((wr.alloc (.cells #[.slice (some ⟨gr, 0, none⟩) (runUp 0 j).length cr] 60)).ownsRow w.heap.size 2 1 (.slice (some ⟨gr, 0, none⟩) (runUp 0 j).length cr) (hr j 0).length (I64 (hr j 0))) := HO.out.alloc _
      have HB1 : Hid (Below w.heap.size w (wr.alloc (.cells #[.slice (some ⟨gr, 0, none⟩) (runUp 0 j).length cr] 60))) := by show Below _ _ _; exact hB.alloc hsz _
      have HCA : Hid (∀ n, n = (runUp 0 j).length → (wr.alloc (.cells #[.slice (some ⟨gr, 0, none⟩) (runUp 0 j).length cr] 60)).ownsRow w.heap.size 2 1 (.slice (some ⟨gr, 0, none⟩) n cr) (hr j (1 - 1)).length (I64 (hr j (1 - 1)))) := by rintro n rfl; exact HO1.out
      clear hrl
      go_wp2_with fail
      go_loopw [4, 6] (fun v x wr => ∃ (m g c : Nat) (rw_ : Value), 1 ≤ m ∧ m ≤ 2 * j ∧ x = rw_ ∧ v = .slice (some ⟨g, 0, none⟩) j c ∧ RowsAt wr w.heap.size rw_ m (hr j) ∧ wr.ownsRow w.heap.size 2 1 (.slice (some ⟨g, 0, none⟩) j c) (hr j (m - 1)).length (I64 (hr j (m - 1))) ∧ Below w.heap.size w wr) (fun _ x _ => 2 * j - (match x with | .slice _ n _ => n | _ => 0))
      case atStart => exact ⟨1, gr, cr, _, Nat.le_refl _, by omega, rfl, by rw [runUp_length], HR1.out, HCA.out j (runUp_length 0 j).symm, HB1.out⟩
      case round =>
        clear HR1 HO1 HB1 HO HCA
        obtain ⟨m, g, c, rw_, hm1, hm2, rfl, rfl, hR, ho, hBB⟩ := hrel
        obtain ⟨wo, rfl⟩ : ∃ x : World, x = wr := ⟨_, rfl⟩
        obtain ⟨Aw, cw, rfl, _⟩ := hR.form
        have HR := Lib.hid hR
        have HO := Lib.hid ho
        have HBB := Lib.hid hBB
        have hsz := hBB.size
        have hrl : (hr j (m - 1)).length = j := hr_length j (m - 1)
        have HRL := Lib.hid hrl
        clear hR ho hBB
        by_cases hlt : m < 2 * j
        · have i1 : (m : Int) < 2 * (j : Int) := by omega
          have HSL : Hid (Sl wo (.slice (some ⟨g, 0, none⟩) (hr j (m - 1)).length c) (hr j (m - 1))) := by rw [hrl]; have := HO.out; rw [hrl] at this; exact SlC.of_own this |> fun h => by rw [Sl, hrl]; exact h
          have HCC : Hid (∀ w, Sl w (.slice (some ⟨g, 0, none⟩) (hr j (m - 1)).length c) (hr j (m - 1)) → Calls Try.prog 75 #[.slice (some ⟨g, 0, none⟩) j c] w fun e w' => ∃ v', e = .returned v' ∧ w'.ownsRow w.heap.size 2 1 v' (hr j (m - 1)).length (I64 (hr j (m - 1))) ∧ Below w.heap.size w w') := fun w hv => by
            have h := Clone_any g c (hr j (m - 1)) w hv (by omega)
            have e : (Value.slice (some ⟨g, 0, none⟩) (hr j (m - 1)).length c) = .slice (some ⟨g, 0, none⟩) j c := by rw [hrl]
            rw [e] at h; exact h
          clear hrl
          go_wp2_with fail
          refine (HCC.out _ HSL.out).mono ?_
          rintro e w1 ⟨u, rfl, hu, hb1⟩
          have hrl := HRL.out
          obtain ⟨gu, cu, rfl, _⟩ := hu.form (by omega)
          have HU := Lib.hid hu
          have HB1 := Lib.hid hb1
          obtain ⟨k0, hk0⟩ : ∃ k0 : Nat, k0 = (m + 1) % 2 := ⟨_, rfl⟩
          have HK0 := Lib.hid hk0
          have hk1 : k0 ≤ 1 := by omega
          have e5 : IntKind.i64.wrap ((m : Int) + 1) = (m : Int) + 1 := IntWalk.i64_in _ (by omega)
          have e6 : ((m : Int) + 1).tmod 2 = (k0 : Int) := by rw [Int.tmod_eq_emod_of_nonneg (by omega), hk0]; omega
          have e7 : ((m : Int) + 1) % 2 = (k0 : Int) := by rw [hk0]; omega
          have e8 : IntKind.i64.wrap (k0 : Int) = (k0 : Int) := IntWalk.i64_in _ (by omega)
          obtain ⟨r, hr_⟩ : ∃ r, r = hr j (m - 1) := ⟨_, rfl⟩
          have HRR := Lib.hid hr_
          rw [← hr_] at HU
          simp only [← hr_]
          have hrl2 : r.length = j := by rw [hr_]; exact hrl
          have HRL2 := Lib.hid hrl2
          clear hu hb1 hk0 hr_ hrl HCC HSL hrl2
          go_wp2_with fail
          go_loopw [7] (fun x wr => ∃ q : Nat, 2 * q + k0 ≤ j ∧ x = .int .i64 ((k0 : Int) + 2 * (q : Int)) ∧ wr.ownsRow wo.heap.size 2 1 (.slice (some ⟨gu, 0, none⟩) r.length cu) (swA r k0 q).length (I64 (swA r k0 q)) ∧ Below wo.heap.size wo wr) (fun x _ => (j - (intOf x).toNat))
          case atStart => exact ⟨0, by omega, by simp, HU.out, HB1.out⟩
          case round =>
            obtain ⟨q, hq, rfl, hsw, hBw⟩ := hrel
            have HSW := Lib.hid hsw
            have HBW := Lib.hid hBw
            have i5 : IntKind.i64.wrap ((k0 : Int) + 2 * (q : Int) + 1) = (k0 : Int) + 2 * (q : Int) + 1 := IntWalk.i64_in _ (by omega)
            have hrl2 := HRL2.out
            by_cases hlq : k0 + 2 * q + 1 < j
            · have i6 : (k0 : Int) + 2 * (q : Int) + 1 < (r.length : Int) := by omega
              have i7 : (k0 : Int) + 2 * (q : Int) < (r.length : Int) := by omega
              have i8 : (0 : Int) ≤ (k0 : Int) + 2 * (q : Int) := by omega
              have i9 : (0 : Int) ≤ (k0 : Int) + 2 * (q : Int) + 1 := by omega
              have n1 : ((k0 : Int) + 2 * (q : Int)).toNat = k0 + 2 * q := by omega
              have n2 : ((k0 : Int) + 2 * (q : Int) + 1).toNat = k0 + 2 * q + 1 := by omega
              have hsl := swA_length r k0 q
              rw [hsl] at hsw
              have c0 := (hsw.cellAt (k0 + 2 * q) (by omega)).trans (I64_get (by omega))
              have c1 := (hsw.cellAt (k0 + 2 * q + 1) (by omega)).trans (I64_get (by omega))
              have f0 := hsw.frozenAt (k0 + 2 * q)
              have f1 := hsw.frozenAt (k0 + 2 * q + 1)
              have zg := (hsw.lt gu rfl).2
              have zg1 := (hsw.lt gu rfl).1
              have hS2 : Hid (((wr.setCell ⟨gu, k0 + 2 * q, none⟩ (.int .i64 (ix (swA r k0 q) (k0 + 2 * q + 1)))).setCell ⟨gu, k0 + 2 * q + 1, none⟩ (.int .i64 (ix (swA r k0 q) (k0 + 2 * q)))).ownsRow wo.heap.size 2 1 (.slice (some ⟨gu, 0, none⟩) r.length cu) (swA r k0 (q + 1)).length (I64 (swA r k0 (q + 1)))) := by
                have h1 := (hsw.stored (k0 + 2 * q) (.int .i64 (ix (swA r k0 q) (k0 + 2 * q + 1)))).1
                have h2 := (h1.stored (k0 + 2 * q + 1) (.int .i64 (ix (swA r k0 q) (k0 + 2 * q)))).1
                rw [I64_set2, I64_set2] at h2
                show World.ownsRow _ _ _ _ _ _ _
                rw [swA_length]; exact h2
              clear hsw hsl hBw hrl2
              go_wp2_with fail
              go_region
              all_goals
                go_wp2
                go_roundw
                case rel => exact ⟨q + 1, by omega, (by first | go_num | (congr 1; omega)), hS2.out, (by first | exact (HBW.out.setCell (show wo.heap.size ≤ gu from zg1) _).setCell (show wo.heap.size ≤ gu from zg1) _ | exact (HBW.out.drew.setCell (show wo.heap.size ≤ gu from zg1) _).setCell (show wo.heap.size ≤ gu from zg1) _ | (go_grown; done))⟩
                case measure => simp [intOf]; omega
            · have hqq : q = (j - k0) / 2 := by omega
              have hE : swA r k0 q = hr j m := by
                obtain ⟨m', rfl⟩ : ∃ m', m = m' + 1 := ⟨m - 1, by omega⟩
                rw [hr, HRR.out, Nat.add_sub_cancel, hqq, HK0.out]
              rw [hE, hrl2] at hsw
              obtain ⟨vs, hvo, hvv, hvd⟩ := HR.out
              have hgu := (hsw.lt gu rfl).1
              have hgu2 := (hsw.lt gu rfl).2
              have HVO := Lib.hid hvo
              have HVV := Lib.hid hvv
              have HVD := Lib.hid hvd
              have HUW := Lib.hid hsw
              have HVW := Lib.hid (own_below hvo hBw)
              have hzw := hBw.size
              clear hsw hvo hvv hvd hBw hE HSW
              go_wp2_with (at_builtin; refine wpList_app rfl _ _ _ rfl Try.underlying22 hi hz0 hz1 hz2 rfl (by decide) (by decide) w.heap.size _ m vs rfl HVW.out [.slice (some ⟨gu, 0, none⟩) j cu] rfl (by intro x hx; simp at hx; subst hx; rfl) rfl (by omega) (by omega) ?_; intro v6 w6 ho6 hb6 hg6 hn6; obtain ⟨A6, c6, rfl⟩ := own_form ho6; have HP6 := Lib.hid (rows_push (L := hr j) HVO.out HVV.out HVD.out HBW.out (own_mono HUW.out (by omega)) (fun b hb => by simp [Value.ownBlock] at hb; omega) ho6 hg6 hn6); have HU6 := Lib.hid (HUW.out.kept hg6 (Or.inr (fun e => by have := (HVO.out.lt gu e.symm).2; omega))); have HB6 := Lib.hid (HBB.out.trans ((HBW.out.mono hsz).trans hb6)); clear ho6 hb6 hg6 hn6)
              go_roundw
              case rel => exact ⟨m + 1, gu, cu, _, by omega, by omega, rfl, rfl, HP6.out, own_mono HU6.out hsz, HB6.out⟩
              case measure => simp; omega
        · obtain rfl : m = 2 * j := by omega
          go_wp2
          go_ret2
          exact ⟨_, rfl, HR.out, HBB.out⟩
set_option maxRecDepth 100000 in
set_option maxHeartbeats 16000000 in
theorem l22Hunt_any (N : Nat) (w : World) (h1 : 2 ≤ N) (h2 : N ≤ 8) :
    Calls Try.prog 76 #[.int .i64 (N : Int)] w fun e w' => ∃ v', e = .returned v' ∧ RowsAt w' w.heap.size v' (2 * N) (hr N) ∧ Below w.heap.size w w' := by
  obtain ⟨i0, hi, hz0, hz1, hz2⟩ := info_parts rows_info
  go_enter Try.func76, Try.ntmps76
  go_wp2_with fail
  go_loopw [3, 4] (fun v i wr => ∃ j : Nat, j ≤ N ∧ i = .int .i64 j ∧ wr.ownsRow w.heap.size 2 1 v (runUp 0 j).length (I64 (runUp 0 j)) ∧ Below w.heap.size w wr) (fun _ i _ => N - (intOf i).toNat)
  case atStart => exact ⟨0, Nat.zero_le _, rfl, own_lit0 w w.heap.size rfl (Nat.le_refl _) _, by go_grown⟩
  case round =>
    obtain ⟨j, hj, rfl, hown, hB⟩ := hrel
    have HO := Lib.hid hown
    have hsz := hB.size
    obtain ⟨Ar, cr, rfl⟩ := own_form hown
    clear hown
    by_cases hlt : j < N
    · have i1 : (j : Int) < (N : Int) := by omega
      have hll : (runUp 0 j).length ≤ 134217728 := by rw [runUp_length]; omega
      have hE : runUp 0 (j + 1) = runUp 0 j ++ [(j : Int)] := by rw [runUp_succ]; simp
      have HE := Lib.hid hE
      clear hE
      go_wp2_with (at_builtin; refine wpList_app1g rfl _ _ rfl w.heap.size _ (runUp 0 j) rfl HO.out _ wr.heap.size rfl rfl hll hsz ?_; intro v' w4 hown' hb' hg'; have O4 := Lib.hid hown'; have B4 := Lib.hid (hB.trans hb'); clear hown' hb' hg')
      go_roundw
      case rel => exact ⟨j + 1, by omega, by go_num, by rw [HE.out]; exact O4.out, B4.out⟩
      case measure => simp [intOf]; omega
    · obtain rfl : j = N := by omega
      have hrl : (runUp 0 j).length = j := runUp_length 0 j
      obtain ⟨gr, cr', hA, _⟩ := HO.out.form (by omega)
      injection hA with e1 e2 e3
      subst e1 e3
      have HR1 : Hid (RowsAt (wr.alloc (.cells #[.slice (some ⟨gr, 0, none⟩) (runUp 0 j).length cr] 60)) w.heap.size (.slice (some ⟨wr.heap.size, 0, none⟩) 1 1) 1 (hr j)) := rows_one (L := hr j) HO.out hsz
      have HO1 : Hid ((wr.alloc (.cells #[.slice (some ⟨gr, 0, none⟩) (runUp 0 j).length cr] 60)).ownsRow w.heap.size 2 1 (.slice (some ⟨gr, 0, none⟩) (runUp 0 j).length cr) (hr j 0).length (I64 (hr j 0))) := HO.out.alloc _
      have HB1 : Hid (Below w.heap.size w (wr.alloc (.cells #[.slice (some ⟨gr, 0, none⟩) (runUp 0 j).length cr] 60))) := by show Below _ _ _; exact hB.alloc hsz _
      have HCA : Hid (∀ n, n = (runUp 0 j).length → (wr.alloc (.cells #[.slice (some ⟨gr, 0, none⟩) (runUp 0 j).length cr] 60)).ownsRow w.heap.size 2 1 (.slice (some ⟨gr, 0, none⟩) n cr) (hr j (1 - 1)).length (I64 (hr j (1 - 1)))) := by rintro n rfl; exact HO1.out
      clear hrl
      go_wp2_with fail
      go_loopw [3, 5, 6] (fun v x z wr => ∃ (m g c : Nat) (rw_ : Value), 1 ≤ m ∧ m ≤ 2 * j ∧ x = rw_ ∧ z = .int .i64 m ∧ v = .slice (some ⟨g, 0, none⟩) j c ∧ RowsAt wr w.heap.size rw_ m (hr j) ∧ wr.ownsRow w.heap.size 2 1 (.slice (some ⟨g, 0, none⟩) j c) (hr j (m - 1)).length (I64 (hr j (m - 1))) ∧ Below w.heap.size w wr) (fun _ _ z _ => (2 * j - (intOf z).toNat))
      case atStart => exact ⟨1, gr, cr, _, Nat.le_refl _, by omega, rfl, rfl, by rw [runUp_length], HR1.out, HCA.out j (runUp_length 0 j).symm, HB1.out⟩
      case round =>
        clear HR1 HO1 HB1 HO HCA
        obtain ⟨m, g, c, rw_, hm1, hm2, rfl, rfl, rfl, hR, ho, hBB⟩ := hrel
        obtain ⟨wo, rfl⟩ : ∃ x : World, x = wr := ⟨_, rfl⟩
        obtain ⟨Aw, cw, rfl, _⟩ := hR.form
        have HR := Lib.hid hR
        have HO := Lib.hid ho
        have HBB := Lib.hid hBB
        have hsz := hBB.size
        have hrl : (hr j (m - 1)).length = j := hr_length j (m - 1)
        have HRL := Lib.hid hrl
        clear hR ho hBB
        by_cases hlt : m < 2 * j
        · have i1 : (m : Int) < 2 * (j : Int) := by omega
          have HSL : Hid (Sl wo (.slice (some ⟨g, 0, none⟩) (hr j (m - 1)).length c) (hr j (m - 1))) := by rw [hrl]; have := HO.out; rw [hrl] at this; exact SlC.of_own this |> fun h => by rw [Sl, hrl]; exact h
          have HCC : Hid (∀ w, Sl w (.slice (some ⟨g, 0, none⟩) (hr j (m - 1)).length c) (hr j (m - 1)) → Calls Try.prog 93 #[.slice (some ⟨g, 0, none⟩) j c] w fun e w' => ∃ v', e = .returned v' ∧ w'.ownsRow w.heap.size 2 1 v' (hr j (m - 1)).length (I64 (hr j (m - 1))) ∧ Below w.heap.size w w') := fun w hv => by
            have h := l00Own_any g c (hr j (m - 1)) w hv (by omega)
            have e : (Value.slice (some ⟨g, 0, none⟩) (hr j (m - 1)).length c) = .slice (some ⟨g, 0, none⟩) j c := by rw [hrl]
            rw [e] at h; exact h
          clear hrl
          go_wp2_with fail
          refine (HCC.out _ HSL.out).mono ?_
          rintro e w1 ⟨u, rfl, hu, hb1⟩
          have hrl := HRL.out
          obtain ⟨gu, cu, rfl, _⟩ := hu.form (by omega)
          have HU := Lib.hid hu
          have HB1 := Lib.hid hb1
          obtain ⟨k0, hk0⟩ : ∃ k0 : Nat, k0 = (m + 1) % 2 := ⟨_, rfl⟩
          have HK0 := Lib.hid hk0
          have hk1 : k0 ≤ 1 := by omega
          have e5 : IntKind.i64.wrap ((m : Int) + 1) = (m : Int) + 1 := IntWalk.i64_in _ (by omega)
          have e6 : ((m : Int) + 1).tmod 2 = (k0 : Int) := by rw [Int.tmod_eq_emod_of_nonneg (by omega), hk0]; omega
          have e7 : ((m : Int) + 1) % 2 = (k0 : Int) := by rw [hk0]; omega
          have e8 : IntKind.i64.wrap (k0 : Int) = (k0 : Int) := IntWalk.i64_in _ (by omega)
          obtain ⟨r, hr_⟩ : ∃ r, r = hr j (m - 1) := ⟨_, rfl⟩
          have HRR := Lib.hid hr_
          rw [← hr_] at HU
          simp only [← hr_]
          have hrl2 : r.length = j := by rw [hr_]; exact hrl
          have HRL2 := Lib.hid hrl2
          clear hu hb1 hk0 hr_ hrl HCC HSL hrl2
          go_wp2_with fail
          go_loopw [8] (fun x wr => ∃ q : Nat, 2 * q + k0 ≤ j ∧ x = .int .i64 ((k0 : Int) + 2 * (q : Int)) ∧ wr.ownsRow wo.heap.size 2 1 (.slice (some ⟨gu, 0, none⟩) r.length cu) (swA r k0 q).length (I64 (swA r k0 q)) ∧ Below wo.heap.size wo wr) (fun x _ => (j - (intOf x).toNat))
          case atStart => exact ⟨0, by omega, by simp, HU.out, HB1.out⟩
          case round =>
            obtain ⟨q, hq, rfl, hsw, hBw⟩ := hrel
            have HSW := Lib.hid hsw
            have HBW := Lib.hid hBw
            have i5 : IntKind.i64.wrap ((k0 : Int) + 2 * (q : Int) + 1) = (k0 : Int) + 2 * (q : Int) + 1 := IntWalk.i64_in _ (by omega)
            have hrl2 := HRL2.out
            by_cases hlq : k0 + 2 * q + 1 < j
            · have i6 : (k0 : Int) + 2 * (q : Int) + 1 < (r.length : Int) := by omega
              have i7 : (k0 : Int) + 2 * (q : Int) < (r.length : Int) := by omega
              have i8 : (0 : Int) ≤ (k0 : Int) + 2 * (q : Int) := by omega
              have i9 : (0 : Int) ≤ (k0 : Int) + 2 * (q : Int) + 1 := by omega
              have n1 : ((k0 : Int) + 2 * (q : Int)).toNat = k0 + 2 * q := by omega
              have n2 : ((k0 : Int) + 2 * (q : Int) + 1).toNat = k0 + 2 * q + 1 := by omega
              have hsl := swA_length r k0 q
              rw [hsl] at hsw
              have c0 := (hsw.cellAt (k0 + 2 * q) (by omega)).trans (I64_get (by omega))
              have c1 := (hsw.cellAt (k0 + 2 * q + 1) (by omega)).trans (I64_get (by omega))
              have f0 := hsw.frozenAt (k0 + 2 * q)
              have f1 := hsw.frozenAt (k0 + 2 * q + 1)
              have zg := (hsw.lt gu rfl).2
              have zg1 := (hsw.lt gu rfl).1
              have hS2 : Hid (((wr.setCell ⟨gu, k0 + 2 * q, none⟩ (.int .i64 (ix (swA r k0 q) (k0 + 2 * q + 1)))).setCell ⟨gu, k0 + 2 * q + 1, none⟩ (.int .i64 (ix (swA r k0 q) (k0 + 2 * q)))).ownsRow wo.heap.size 2 1 (.slice (some ⟨gu, 0, none⟩) r.length cu) (swA r k0 (q + 1)).length (I64 (swA r k0 (q + 1)))) := by
                have h1 := (hsw.stored (k0 + 2 * q) (.int .i64 (ix (swA r k0 q) (k0 + 2 * q + 1)))).1
                have h2 := (h1.stored (k0 + 2 * q + 1) (.int .i64 (ix (swA r k0 q) (k0 + 2 * q)))).1
                rw [I64_set2, I64_set2] at h2
                show World.ownsRow _ _ _ _ _ _ _
                rw [swA_length]; exact h2
              clear hsw hsl hBw hrl2
              go_wp2_with fail
              all_goals
                go_roundw
                case rel => exact ⟨q + 1, by omega, (by first | go_num | (congr 1; omega)), hS2.out, (by first | exact (HBW.out.setCell (show wo.heap.size ≤ gu from zg1) _).setCell (show wo.heap.size ≤ gu from zg1) _ | exact (HBW.out.drew.setCell (show wo.heap.size ≤ gu from zg1) _).setCell (show wo.heap.size ≤ gu from zg1) _ | (go_grown; done))⟩
                case measure => simp [intOf]; omega
            · have hqq : q = (j - k0) / 2 := by omega
              have hE : swA r k0 q = hr j m := by
                obtain ⟨m', rfl⟩ : ∃ m', m = m' + 1 := ⟨m - 1, by omega⟩
                rw [hr, HRR.out, Nat.add_sub_cancel, hqq, HK0.out]
              rw [hE, hrl2] at hsw
              obtain ⟨vs, hvo, hvv, hvd⟩ := HR.out
              have hgu := (hsw.lt gu rfl).1
              have hgu2 := (hsw.lt gu rfl).2
              have HVO := Lib.hid hvo
              have HVV := Lib.hid hvv
              have HVD := Lib.hid hvd
              have HUW := Lib.hid hsw
              have HVW := Lib.hid (own_below hvo hBw)
              have hzw := hBw.size
              clear hsw hvo hvv hvd hBw hE HSW
              go_wp2_with (at_builtin; refine wpList_app rfl _ _ _ rfl Try.underlying22 hi hz0 hz1 hz2 rfl (by decide) (by decide) w.heap.size _ m vs rfl HVW.out [.slice (some ⟨gu, 0, none⟩) j cu] rfl (by intro x hx; simp at hx; subst hx; rfl) rfl (by omega) (by omega) ?_; intro v6 w6 ho6 hb6 hg6 hn6; obtain ⟨A6, c6, rfl⟩ := own_form ho6; have HP6 := Lib.hid (rows_push (L := hr j) HVO.out HVV.out HVD.out HBW.out (own_mono HUW.out (by omega)) (fun b hb => by simp [Value.ownBlock] at hb; omega) ho6 hg6 hn6); have HU6 := Lib.hid (HUW.out.kept hg6 (Or.inr (fun e => by have := (HVO.out.lt gu e.symm).2; omega))); have HB6 := Lib.hid (HBB.out.trans ((HBW.out.mono hsz).trans hb6)); clear ho6 hb6 hg6 hn6)
              go_roundw
              case rel => exact ⟨m + 1, gu, cu, _, by omega, by omega, rfl, by go_num, rfl, HP6.out, own_mono HU6.out hsz, HB6.out⟩
              case measure => simp [intOf]; omega
        · obtain rfl : m = 2 * j := by omega
          go_wp2
          go_ret
          exact ⟨_, rfl, HR.out, HBB.out⟩
set_option maxHeartbeats 2000000 in
theorem PlainHunt_s0 (N : Nat) (w : World) (h1 : 3 ≤ N) (h2 : N ≤ 8) :
    Calls Try.prog 39 #[.int .i64 (N : Int)] w fun e w' => ∃ v', e = .returned (.tuple #[v', .int .i64 0]) ∧ RowsAt w' w.heap.size v' (2 * N) (hr N) ∧ Below w.heap.size w w' := by
  have H := Lib.hid (fun w => l00In_r (N : Int) 3 8 true w (inB_t (by omega) (by omega)))
  go_enter Try.func39, Try.ntmps39
  go_wp2_with fail
  refine (H.out _).mono ?_
  rintro e w' ⟨rfl, rfl⟩
  go_wp2_with fail
  refine (l22Hunt_any N _ (by omega) h2).mono ?_
  rintro e w1 ⟨v, rfl, hR, hb⟩
  have HR := Lib.hid hR
  obtain ⟨A, c, rfl, _⟩ := hR.form
  clear hR
  go_wp2
  go_ret2
  exact ⟨_, rfl, HR.out, hb⟩
theorem PlainHunt_both (n : Int) : ∃ (m q : Nat) (L : Nat → List Int) (rc : Int), m ≤ 16 ∧ q ≤ 8 ∧ (∀ i, i < m → (L i).length = q) ∧
    (∀ w, Calls Try.prog 38 #[.int .i64 n] w fun e w' => ∃ v', e = .returned (.tuple #[v', .int .i64 rc]) ∧ RowsAt w' w.heap.size v' m L ∧ Below w.heap.size w w') ∧
    (∀ w, Calls Try.prog 39 #[.int .i64 n] w fun e w' => ∃ v', e = .returned (.tuple #[v', .int .i64 rc]) ∧ RowsAt w' w.heap.size v' m L ∧ Below w.heap.size w w') := by
  cases h : inB n 3 8 with
  | false => exact ⟨0, 0, hr 0, 2, by omega, by omega, fun i hi => absurd hi (Nat.not_lt_zero _), fun w => PlainHunt_i1 n w h, fun w => PlainHunt_s1 n w h⟩
  | true =>
    obtain ⟨h1, h2⟩ := inB_iff.1 h
    obtain ⟨N, rfl⟩ := Int.eq_ofNat_of_zero_le (show 0 ≤ n by omega)
    exact ⟨2 * N, N, hr N, 0, by omega, by omega, fun i _ => hr_length N i, fun w => PlainHunt_i0 N w (by omega) (by omega), fun w => PlainHunt_s0 N w (by omega) (by omega)⟩
end Go.Proofs.Ytgaohmbgjjhdbaa
