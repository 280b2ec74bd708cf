/- FnReachableHands is proved: the states that can be reached are closed under the actions, and contain the state itself; the answers are the reference's. No condition. -/
import Derived.Test.YtfddibdncniekaaDoorDrM
import Derived.Test.YtfddibdncniekaaDoorHsR
import Derived.Test.YtfddibdncniekaaDoorHsP
import Derived.Test.YtfddibdncniekaaDoorCelB
import Derived.Test.YtfddibdncniekaaDoorF6h
import Derived.Test.YtfddibdncniekaaDoorDi
import Derived.Test.YtfddibdncniekaaDoorRow3
import Derived.Test.YtfddibdncniekaaDoorRowF
import Derived.Test.YtfddibdncniekaaDoorCards
import Derived.Test.YtfddibdncniekaaDoorTie
import Derived.OpenShut
import Derived.LaidMore
import Derived.Lay
import Derived.SevenTiedAt
import Derived.Stop.Joined
import Derived.ChangeMaps5
import Derived.Deep.RegionHeld3
import Derived.Deep.DeepCutAuto
namespace Go.Proofs.YtfddibdncniekaaDoor
open Go.ChangeShapes Go.WideShapes Go.ChangeAt Go.RowKit
attribute [local go_sem ↓] Go.wp_at_zero Go.wp_at_succ

theorem rc_facts (gs : List Int) (h q : Int) (s : ByteArray) (hsz : s.size ≤ 9223372036854775807) : ∃ (rl : List (Int × Int)) (rc : Int), rl.length ≤ 3000 ∧
    (rc ≠ 0 ∨ (rc = 0 ∧ rl = rcL gs h q s ∧ hnB gs h q = true ∧ knB s = true)) ∧
    (∀ v w, Sl w v gs → Calls Tryd.prog 46 #[.agg #[v], .agg #[.int .i64 h, .int .i64 q], .string s] w fun e w' => ∃ v', e = .returned (.tuple #[v', .int .i64 rc]) ∧ w'.ownsRow w.heap.size 28 2 v' rl.length (P64 rl) ∧ Below w.heap.size w w') ∧
    (∀ v w, Sl w v gs → Calls Tryd.prog 45 #[.agg #[v], .agg #[.int .i64 h, .int .i64 q], .string s] w fun e w' => ∃ v', e = .returned (.tuple #[v', .int .i64 rc]) ∧ w'.ownsRow w.heap.size 28 2 v' rl.length (P64 rl) ∧ Below w.heap.size w w') := by
  cases hs : hnB gs h q with
  | false =>
    have e : cdB gs h q s = 1 := by simp [cdB, hs]
    refine ⟨[], 1, Nat.zero_le _, Or.inl (by decide), fun v w hv => ReachableHands_i1 v gs h q s w hv hs, fun v w hv => ?_⟩
    have := ReachableHands_s1 v gs h q s w hv hsz (by omega)
    rwa [e] at this
  | true =>
    cases hk : knB s with
    | false =>
      have e : cdB gs h q s = 7 := by simp [cdB, hs, hk]
      refine ⟨[], 7, Nat.zero_le _, Or.inl (by decide), fun v w hv => ReachableHands_i7 v gs h q s w hv hsz hs hk, fun v w hv => ?_⟩
      have := ReachableHands_s1 v gs h q s w hv hsz (by omega)
      rwa [e] at this
    | true =>
      obtain ⟨hw, hx⟩ := hnB_iff.1 hs
      obtain ⟨-, h1, h24⟩ := whB_iff.1 hw
      have hc := (waysOf_ok s h1 hx).1.count
      exact ⟨rcL gs h q s, 0, by rw [rcL_length]; omega, Or.inr ⟨rfl, rfl, rfl, rfl⟩, fun v w hv => ReachableHands_i0 v gs h q s w hv hsz hs hk, fun v w hv => ReachableHands_s0 v gs h q s w hv hsz hs hk⟩
theorem rcL_mem {gs : List Int} {h q : Int} {s : ByteArray} {x : Int × Int} : x ∈ rcL gs h q s ↔ x ∈ (waysOf gs h q s).map Prod.fst := by
  have h1 := srtP_perm (stW (waysOf gs h q s)) (waysOf gs h q s).length (by rw [stW_length]; exact Nat.le_refl _)
  have h2 : (stW (waysOf gs h q s)).take (waysOf gs h q s).length = stW (waysOf gs h q s) := by rw [← stW_length, List.take_length]
  rw [h2] at h1
  exact h1.mem_iff
theorem rcL_start {gs : List Int} {h q : Int} {s : ByteArray} (hs : hnB gs h q = true) : (h, q) ∈ rcL gs h q s := by
  obtain ⟨hw, hx⟩ := hnB_iff.1 hs
  obtain ⟨-, h1, h24⟩ := whB_iff.1 hw
  have ho := (waysOf_ok s h1 hx).1
  rw [rcL_mem]
  have := List.mem_map_of_mem (f := Prod.fst) (pw_mem ho.pos)
  rwa [ho.hd] at this
theorem rcL_closed {gs : List Int} {h q : Int} {s : ByteArray} (hs : hnB gs h q = true) {x : Int × Int} (hx : x ∈ rcL gs h q s) {b : UInt8} (hb : b ∈ actA s) : stpB gs b x ∈ rcL gs h q s := by
  obtain ⟨hw, hxx⟩ := hnB_iff.1 hs
  obtain ⟨-, h1, h24⟩ := whB_iff.1 hw
  have ho := (waysOf_ok s h1 hxx).2
  rw [rcL_mem] at hx ⊢
  obtain ⟨y, hy, rfl⟩ := List.mem_map.1 hx
  obtain ⟨k, hk, rfl⟩ := mem_pw hy
  exact ho k hk b hb
theorem rcL_valid {gs : List Int} {h q : Int} {s : ByteArray} (hs : hnB gs h q = true) {x : Int × Int} (hx : x ∈ rcL gs h q s) : hsB gs x.1 x.2 = true := by
  obtain ⟨hw, hxx⟩ := hnB_iff.1 hs
  obtain ⟨-, h1, h24⟩ := whB_iff.1 hw
  rw [rcL_mem] at hx
  obtain ⟨y, hy, rfl⟩ := List.mem_map.1 hx
  exact (waysOf_ok s h1 hxx).1.valid y hy
/-- A state stands among the first k. -/
def inTo (l : List (Int × Int)) (x : Int × Int) (k : Nat) : Bool := decide (x ∈ l.take k)
theorem inTo_zero (l : List (Int × Int)) (x : Int × Int) : inTo l x 0 = false := by simp [inTo]
theorem inTo_succ {l : List (Int × Int)} {x : Int × Int} {k : Nat} (h : k < l.length) : inTo l x (k + 1) = (inTo l x k || decide (pi l k = x)) := by
  unfold inTo
  rw [List.take_succ_eq_append_getElem h, pi_eq h, ← Bool.decide_or]
  congr 1
  rw [List.mem_append, List.mem_singleton]
  exact propext ⟨fun a => a.elim Or.inl fun a => Or.inr a.symm, fun a => a.elim Or.inl fun a => Or.inr a.symm⟩
theorem inTo_all {l : List (Int × Int)} {x : Int × Int} (h : x ∈ l) : inTo l x l.length = true := by unfold inTo; rw [List.take_length]; exact decide_eq_true h

set_option maxRecDepth 100000 in
set_option maxHeartbeats 16000000 in
theorem reachable_walk (vb : Value) (bs : List Int) (W : World) (hv : SlB W vb bs) :
    Calls Tryd.prog 11 #[vb] W fun e W' => e = .returned (.bool true) ∧ Below W.heap.size W W' := by
  have HV := Lib.hid hv
  clear hv
  cases hbig : decide (4096 < bs.length) with
  | true =>
    go_enter Tryd.func11, Tryd.ntmps11
    go_wp2_with fail
    refine (f6big_any vb bs _ HV.out _ hbig).mono ?_
    rintro e w' ⟨rfl, rfl⟩
    go_wp2
    go_ret
    exact ⟨rfl, Below.refl _ _⟩
  | false =>
    have HBG := Lib.hid hbig
    clear hbig
    go_enter Tryd.func11, Tryd.ntmps11
    go_wp2_with fail
    refine (f6big_any vb bs _ HV.out _ HBG.out).mono ?_
    rintro e w' ⟨rfl, rfl⟩
    go_wp2_with fail
    refine (DrawReachableHands_any vb bs _ HV.out).mono ?_
    rintro e w1 ⟨v, gs, h, q, s, rfl, o_v, hgl, hsz, hb⟩
    obtain ⟨A_v, C_v, rfl⟩ := own_form o_v
    have old := Lib.hid hb
    have O_v := Lib.hid o_v
    clear o_v hb hgl
    obtain ⟨rl, rc, hrl, hlx, hli, hls⟩ := rc_facts gs h q s (by omega)
    have HLX := Lib.hid hlx
    have K1 := Lib.hid hli
    have K2 := Lib.hid hls
    clear hlx hli hls
    go_wp2_with fail
    refine (K1.out _ _ (Sl.of_own (own_below O_v.out (by first | (with_reducible exact Below.refl _ _) | go_grown)))).mono ?_
    rintro e w2 ⟨v2, rfl, o_v2, hb⟩
    obtain ⟨A_v2, C_v2, rfl⟩ := own_form o_v2
    have b_w2 : Below w1.heap.size w1 w2 := Below.trans (by first | (with_reducible exact Below.refl _ _) | go_grown) (hb.mono (by first | (with_reducible exact Nat.le_refl _) | (with_reducible assumption) | (simp [go_sem]; done) | (simp [go_sem]; omega) | omega))
    replace O_v := Lib.hid (own_below O_v.out b_w2)
    have B_wh : Hid (Blk w2 (w1.heap.size) 31 #[.slice A_v gs.length C_v]) := Blk.below (by first | exact Blk.new _ _ _ | exact (Blk.new _ _ _).alloc _ | (have h := Blk.new (w1) 31 #[.slice A_v gs.length C_v]; simpa using h)) hb
    have B_st : Hid (Blk w2 (w1.heap.size + 1) 28 #[.int .i64 h, .int .i64 q]) := Blk.below (by first | exact Blk.new _ _ _ | exact (Blk.new _ _ _).alloc _ | (have h := Blk.new (w1.alloc (.cells #[.slice A_v gs.length C_v] 31)) 28 #[.int .i64 h, .int .i64 q]; simpa using h)) hb
    replace old := Lib.hid (grown_again old.out b_w2)
    clear hb b_w2
    have O_v2 := Lib.hid o_v2
    clear o_v2
    have c_wh_0 := B_wh.out.cell 0 rfl
    have l_wh := B_wh.out.lt
    have c_st_0 := B_st.out.cell 0 rfl
    have c_st_1 := B_st.out.cell 1 rfl
    have l_st := B_st.out.lt
    go_wp2_with fail
    refine (K2.out _ _ (Sl.of_own (own_below O_v.out (by first | (with_reducible exact Below.refl _ _) | go_grown)))).mono ?_
    rintro e w3 ⟨v3, rfl, o_v3, hb⟩
    obtain ⟨A_v3, C_v3, rfl⟩ := own_form o_v3
    have b_w3 : Below w2.heap.size w2 w3 := Below.trans (by first | (with_reducible exact Below.refl _ _) | go_grown) (hb.mono (by first | (with_reducible exact Nat.le_refl _) | (with_reducible assumption) | (simp [go_sem]; done) | (simp [go_sem]; omega) | omega))
    replace B_wh := Lib.hid (B_wh.out.below b_w3)
    replace B_st := Lib.hid (B_st.out.below b_w3)
    replace O_v := Lib.hid (own_below O_v.out b_w3)
    replace O_v2 := Lib.hid (own_below O_v2.out b_w3)
    replace old := Lib.hid (grown_again old.out b_w3)
    clear hb b_w3
    have O_v3 := Lib.hid o_v3
    clear o_v3
    clear c_wh_0 l_wh c_st_0 c_st_1 l_st
    have c_wh_0 := B_wh.out.cell 0 rfl
    have l_wh := B_wh.out.lt
    have c_st_0 := B_st.out.cell 0 rfl
    have c_st_1 := B_st.out.cell 1 rfl
    have l_st := B_st.out.lt
    go_wp2_with fail
    refine (f6states_b _ _ rl _ (SlP.of_own (own_below O_v2.out (by first | (with_reducible exact Below.refl _ _) | go_grown))) (SlP.of_own (own_below O_v3.out (by first | (with_reducible exact Below.refl _ _) | go_grown)))).mono ?_
    rintro e w4 ⟨rfl, hb⟩
    have b_w4 : Below w3.heap.size w3 w4 := Below.trans (by first | (with_reducible exact Below.refl _ _) | go_grown) (hb.mono (by first | (with_reducible exact Nat.le_refl _) | (with_reducible assumption) | (simp [go_sem]; done) | (simp [go_sem]; omega) | omega))
    replace B_wh := Lib.hid (B_wh.out.below b_w4)
    replace B_st := Lib.hid (B_st.out.below b_w4)
    replace O_v := Lib.hid (own_below O_v.out b_w4)
    replace O_v2 := Lib.hid (own_below O_v2.out b_w4)
    replace O_v3 := Lib.hid (own_below O_v3.out b_w4)
    replace old := Lib.hid (grown_again old.out b_w4)
    clear hb b_w4
    rcases HLX.out with hbad | ⟨rfl, hrl2, hn, hk⟩
    clear c_wh_0 l_wh c_st_0 c_st_1 l_st
    have c_wh_0 := B_wh.out.cell 0 rfl
    have l_wh := B_wh.out.lt
    have c_st_0 := B_st.out.cell 0 rfl
    have c_st_1 := B_st.out.cell 1 rfl
    have l_st := B_st.out.lt
    · have hne : (rc != 0) = true := by simpa using hbad
      have hne2 : ¬ rc = 0 := hbad
      clear hbad
      go_wp2_with fail
      go_ret
      exact ⟨rfl, by first | exact old.out | exact below_drewN old.out _⟩
    · have HN := Lib.hid hn
      have HK := Lib.hid hk
      have HS0 := Lib.hid (show (h, q) ∈ rl by rw [hrl2]; exact rcL_start hn)
      have HCL := Lib.hid (show ∀ x, x ∈ rl → ∀ b, b ∈ actA s → stpB gs b x ∈ rl by rw [hrl2]; exact fun x hx b hb => rcL_closed hn hx hb)
      have HVL := Lib.hid (show ∀ x, x ∈ rl → hsB gs x.1 x.2 = true by rw [hrl2]; exact fun x hx => rcL_valid hn hx)
      clear hn hk hrl2
      clear c_wh_0 l_wh c_st_0 c_st_1 l_st
      have c_wh_0 := B_wh.out.cell 0 rfl
      have l_wh := B_wh.out.lt
      have c_st_0 := B_st.out.cell 0 rfl
      have c_st_1 := B_st.out.cell 1 rfl
      have l_st := B_st.out.lt
      go_wp2_with fail
      clear c_wh_0 l_wh c_st_0 c_st_1 l_st
      go_loopw [10, 11] (fun a c wr => ∃ i : Nat, i ≤ rl.length ∧ c = .int .i64 (i : Int) ∧ a = .bool (inTo rl (h, q) i) ∧ Hid (Below w4.heap.size w4 wr)) (fun _ c _ => rl.length - (intOf c).toNat)
      case atStart => exact ⟨0, by omega, by go_num, by rw [inTo_zero], Lib.hid (Below.refl _ _)⟩
      case round =>
        obtain ⟨i, hi, rfl, rfl, hBa⟩ := hrel
        obtain ⟨wia, rfl⟩ : ∃ y : World, y = wr := ⟨_, rfl⟩
        have hb := hBa.out
        have b_wia : Below w4.heap.size w4 wia := Below.trans (by first | (with_reducible exact Below.refl _ _) | go_grown) (hb.mono (by first | (with_reducible exact Nat.le_refl _) | (with_reducible assumption) | (simp [go_sem]; done) | (simp [go_sem]; omega) | omega))
        replace B_wh := Lib.hid (B_wh.out.below b_wia)
        replace B_st := Lib.hid (B_st.out.below b_wia)
        replace O_v := Lib.hid (own_below O_v.out b_wia)
        replace O_v2 := Lib.hid (own_below O_v2.out b_wia)
        replace O_v3 := Lib.hid (own_below O_v3.out b_wia)
        replace old := Lib.hid (grown_again old.out b_wia)
        clear hb b_wia
        by_cases hlt : i < rl.length
        · have i1 : (i : Int) < (rl.length : Int) := by omega
          obtain ⟨A3, c3, e3, hac3, hac3', HA3⟩ := (SlP.of_own O_v2.out).open_
          injection e3 with e31 _ e33
          subst e31 e33
          obtain ⟨ba, oa, rfl, hba, hca⟩ := HA3.out i hlt
          obtain ⟨x, hxe⟩ : ∃ x, x = pi rl i := ⟨_, rfl⟩
          have d0 : wia.cell? ⟨ba, oa + i * 2, none⟩ = some (.int .i64 x.1) := by rw [hxe]; exact (hca i hlt).1
          have d1 : wia.cell? ⟨ba, oa + i * 2 + 1, none⟩ = some (.int .i64 x.2) := by rw [hxe]; exact (hca i hlt).2
          have HI := Lib.hid (inTo_succ (x := (h, q)) hlt)
          rw [← hxe] at HI
          clear hac3' HA3 hca hxe
          have hac4 : (rl.length : Int) ≤ (C_v2 : Int) := by omega
          have c_st_0 := B_st.out.cell 0 rfl
          have c_st_1 := B_st.out.cell 1 rfl
          have l_st := B_st.out.lt
          cases hf : inTo rl (h, q) i
          · rw [hf] at HI
            by_cases e1 : x.1 = h
            · by_cases e2 : x.2 = q
              · have HE := Lib.hid (show inTo rl (h, q) (i + 1) = true by rw [HI.out, show x = (h, q) from Prod.ext e1 e2]; simp)
                rw [e1] at d0
                rw [e2] at d1
                clear e1 e2 hf
                go_wp2_with fail
                go_quiet (fail)
                go_wp2_with fail
                go_roundw
                case rel => exact ⟨i + 1, by omega, by go_num, by rw [HE.out], Lib.hid (by first | exact hBa.out | exact below_drewN hBa.out _)⟩
                case measure => simp [intOf]; omega
              · have HE := Lib.hid (show inTo rl (h, q) (i + 1) = false by rw [HI.out]; simp; exact fun e => e2 (by rw [e]))
                have n2 : (x.2 == q) = false := by simp [e2]
                rw [e1] at d0
                clear e1 e2 hf
                go_wp2_with fail
                go_quiet (fail)
                go_wp2_with fail
                go_roundw
                case rel => exact ⟨i + 1, by omega, by go_num, by rw [HE.out], Lib.hid (by first | exact hBa.out | exact below_drewN hBa.out _)⟩
                case measure => simp [intOf]; omega
            · have HE := Lib.hid (show inTo rl (h, q) (i + 1) = false by rw [HI.out]; simp; exact fun e => e1 (by rw [e]))
              have n1 : (x.1 == h) = false := by simp [e1]
              clear e1 hf
              go_wp2_with fail
              go_quiet (fail)
              go_wp2_with fail
              go_roundw
              case rel => exact ⟨i + 1, by omega, by go_num, by rw [HE.out], Lib.hid (by first | exact hBa.out | exact below_drewN hBa.out _)⟩
              case measure => simp [intOf]; omega
          · rw [hf] at HI
            have HE := Lib.hid (show inTo rl (h, q) (i + 1) = true by rw [HI.out]; simp)
            clear hf
            go_wp2_with fail
            go_quiet (fail)
            go_wp2_with fail
            go_roundw
            case rel => exact ⟨i + 1, by omega, by go_num, by rw [HE.out], Lib.hid (by first | exact hBa.out | exact below_drewN hBa.out _)⟩
            case measure => simp [intOf]; omega
        · obtain rfl : i = rl.length := by omega
          rw [inTo_all HS0.out]
          have BC_wh := B_wh
          have BC_st := B_st
          have OC_v := O_v
          have OC_v2 := O_v2
          have OLD := old
          have c_wh_0 := B_wh.out.cell 0 rfl
          have l_wh := B_wh.out.lt
          have c_st_0 := B_st.out.cell 0 rfl
          have c_st_1 := B_st.out.cell 1 rfl
          have l_st := B_st.out.lt
          go_wp2_with fail
          refine (f6roll_any vb bs W _ HV.out (grown_again old.out (by first | (with_reducible exact Below.refl _ _) | go_grown)) _ rfl _ (by decide) (by decide)).mono ?_
          rintro e wa ⟨rfl, hd, hb⟩
          have HD : Hid (Dice W wa wia.heap.size vb bs) := hd
          have CB : Hid (Below wia.heap.size wia wa) := Below.trans (by first | (with_reducible exact Below.refl _ _) | go_grown) (hb.mono (by first | (with_reducible exact Nat.le_refl _) | (with_reducible assumption) | (simp [go_sem]; done) | (simp [go_sem]; omega) | omega))
          clear hd hb
          clear c_wh_0 l_wh c_st_0 c_st_1 l_st
          have B_wh := Lib.hid (BC_wh.out.below CB.out)
          have B_st := Lib.hid (BC_st.out.below CB.out)
          have O_v := Lib.hid (own_below OC_v.out CB.out)
          have O_v2 := Lib.hid (own_below OC_v2.out CB.out)
          have old := Lib.hid (grown_again OLD.out CB.out)
          have c_wh_0 := B_wh.out.cell 0 rfl
          have l_wh := B_wh.out.lt
          have c_st_0 := B_st.out.cell 0 rfl
          have c_st_1 := B_st.out.cell 1 rfl
          have l_st := B_st.out.lt
          go_wp2_with fail
          clear c_wh_0 l_wh c_st_0 c_st_1 l_st
          go_loopw [14] (fun a wr => ∃ (k : Nat) (x : Int × Int), k ≤ 12 ∧ a = .int .i64 (k : Int) ∧ Hid (x ∈ rl) ∧ Hid (Blk wr wa.heap.size 28 #[.int .i64 x.1, .int .i64 x.2]) ∧ Hid (Dice W wr wia.heap.size vb bs) ∧ Hid (Below wia.heap.size wia wr)) (fun a _ => 12 - (intOf a).toNat)
          case atStart => exact ⟨0, (h, q), by omega, by go_num, HS0, Lib.hid (Blk.new _ _ _), Lib.hid (HD.out.below (by go_grown)), Lib.hid (CB.out.alloc CB.out.size _)⟩
          case round =>
            obtain ⟨k, x, hk12, rfl, hxr, hat, hdi, hCk⟩ := hrel
            obtain ⟨wk, rfl⟩ : ∃ y : World, y = wr := ⟨_, rfl⟩
            have B_wh := Lib.hid (BC_wh.out.below hCk.out)
            have B_st := Lib.hid (BC_st.out.below hCk.out)
            have O_v := Lib.hid (own_below OC_v.out hCk.out)
            have O_v2 := Lib.hid (own_below OC_v2.out hCk.out)
            have old := Lib.hid (grown_again OLD.out hCk.out)
            have B_at := hat
            by_cases hkl : k < 12
            · have i0 : (k : Int) < 12 := by omega
              by_cases hs0 : 0 < s.size
              · have i1 : (0 : Int) < (s.size : Int) := by omega
                have zdi := hdi.out.lt
                have zat := hat.out.lt
                have zCk := hCk.out.size
                have zCB := CB.out.size
                have hda : wia.heap.size < wa.heap.size := HD.out.lt
                have c_wh_0 := B_wh.out.cell 0 rfl
                have l_wh := B_wh.out.lt
                have c_st_0 := B_st.out.cell 0 rfl
                have c_st_1 := B_st.out.cell 1 rfl
                have l_st := B_st.out.lt
                have c_at_0 := B_at.out.cell 0 rfl
                have c_at_1 := B_at.out.cell 1 rfl
                have l_at := B_at.out.lt
                go_wp2_with fail
                refine (below_any W _ _ vb bs hdi.out _ (by omega) (by omega)).mono ?_
                rintro e wb ⟨at_, ⟨at0, at1⟩, rfl, hd2, hgd⟩
                have CB2 := Lib.hid (hCk.out.trans (below_of_grown hgd zCk (fun j hj => by cases hj; exact Nat.le_refl _)))
                have HD2 := Lib.hid hd2
                have BA2 := Lib.hid (hat.out.grown hgd (by simp; omega))
                clear hd2 hgd
                clear c_wh_0 l_wh c_st_0 c_st_1 l_st c_at_0 c_at_1 l_at
                obtain ⟨J, rfl⟩ := Int.eq_ofNat_of_zero_le at0
                have hJ : J < s.size := by omega
                obtain ⟨s1, hs1⟩ : ∃ s1, s.extract J (J + 1) = s1 := ⟨_, rfl⟩
                have hz1 : s1.size = 1 := by rw [← hs1, size_ext (by omega)]; omega
                have hb1 : bY s1 0 = bY s J := by rw [← hs1, bY_ext (by omega) (by omega), Nat.add_zero]
                have hk1 : knB s1 = true := by rw [← hs1]; exact knB_ext (by omega) HK.out
                obtain ⟨y, hy⟩ : ∃ y, y = stpB gs (bY s J) x := ⟨_, rfl⟩
                have hyr : y ∈ rl := by
                  rw [hy]
                  exact HCL.out x hxr.out _ (actA_iff.2 ⟨knB_at HK.out hJ, bY_mem hJ⟩)
                have HYR := Lib.hid hyr
                obtain ⟨ll, hll⟩ : ∃ ll, ll = mvL gs s1 x.1 x.2 1 := ⟨_, rfl⟩
                have hlln : ll.length ≤ 1 := by rw [hll]; exact mvL_length _ _ _ _ _
                have KM : Hid (∀ v w, Sl w v gs → Calls Tryd.prog 16 #[.agg #[v], .agg #[.int .i64 x.1, .int .i64 x.2], .string s1] w fun e w' => ∃ v', e = .returned (.tuple #[.agg #[.int .i64 y.1, .int .i64 y.2], v', .int .i64 0]) ∧ w'.ownsRow w.heap.size 2 1 v' ll.length (I64 ll) ∧ Below w.heap.size w w') := fun v w hv => by
                  have hnx : hnB gs x.1 x.2 = true := hnB_iff.2 ⟨(hnB_iff.1 HN.out).1, HVL.out x hxr.out⟩
                  have := MoveHands_i0 v gs x.1 x.2 s1 w hv hnx (by omega) hk1
                  rw [hz1, ← hll, show mvS gs s1 x.1 x.2 1 = y from by rw [hy]; show stpB gs (bY s1 0) x = _; rw [hb1]] at this
                  exact this
                have iJ0 : (0 : Int) ≤ (J : Int) := by omega
                have iJ1 : (J : Int) < (s.size : Int) := by omega
                have iJ2 : (J : Int) ≤ (J : Int) + 1 := by omega
                have iJ3 : (J : Int) + 1 ≤ (s.size : Int) := by omega
                have iJ4 : (0 : Int) ≤ (J : Int) + 1 := by omega
                have iJ6 : (J : Int) ≤ (s.size : Int) := by omega
                have HJw := Lib.hid (show IntKind.i64.wrap ((J : Int) + 1) = (J : Int) + 1 from IntWalk.i64_in _ (by omega))
                have HJn := Lib.hid (show ((J : Int) + 1).toNat = J + 1 by omega)
                clear hz1 hb1 hk1 hy hyr hll at0 at1
                have B_wh := Lib.hid (BC_wh.out.below CB2.out)
                have B_st := Lib.hid (BC_st.out.below CB2.out)
                have O_v := Lib.hid (own_below OC_v.out CB2.out)
                have O_v2 := Lib.hid (own_below OC_v2.out CB2.out)
                have old := Lib.hid (grown_again OLD.out CB2.out)
                have B_at := BA2
                have c_wh_0 := B_wh.out.cell 0 rfl
                have l_wh := B_wh.out.lt
                have c_at_0 := B_at.out.cell 0 rfl
                have c_at_1 := B_at.out.cell 1 rfl
                have l_at := B_at.out.lt
                have eJw := HJw.out
                have eJn := HJn.out
                go_upto_region 23 with (fail)
                go_cut [16, 17, 18] (fun a0 a1 a2 wr => ∃ (gm : Nat) (vm : Value), a0 = .pointer (some ⟨gm, 0, none⟩) ∧ vm = a1 ∧ a2 = .int .i64 0 ∧ (wb.heap.size ≤ gm ∧ gm < wr.heap.size) ∧ wr.cell? ⟨gm, 0, none⟩ = some (.int .i64 y.1) ∧ wr.cell? ⟨gm, 1, none⟩ = some (.int .i64 y.2) ∧ Below wb.heap.size wb wr)
                case first =>
                  have HSr := Lib.hid (fun (w' : World) (hb : Below wb.heap.size wb w') => (⟨(B_wh.out.below hb).cell 0 rfl, (B_at.out.below hb).cell 0 rfl, (B_at.out.below hb).cell 1 rfl⟩ : w'.cell? ⟨w1.heap.size, 0, none⟩ = some (.slice A_v gs.length C_v) ∧ w'.cell? ⟨wa.heap.size, 0, none⟩ = some (.int .i64 x.1) ∧ w'.cell? ⟨wa.heap.size, 1, none⟩ = some (.int .i64 x.2)))
                  go_region_held3 (fun w' => w'.cell? ⟨w1.heap.size, 0, none⟩ = some (.slice A_v gs.length C_v) ∧ w'.cell? ⟨wa.heap.size, 0, none⟩ = some (.int .i64 x.1) ∧ w'.cell? ⟨wa.heap.size, 1, none⟩ = some (.int .i64 x.2)) (first | assumption | (refine HSr.out _ ?_; go_grown; done) | ((try dsimp only); (repeat' apply And.intro) <;> (first | assumption | (simp [go_sem, *]; done))) | go_keep)
                    ((go_at_call 16; refine (KM.out _ _ (Sl.of_own (own_below O_v.out (by first | (with_reducible exact Below.refl _ _) | go_grown)))).mono ?_; rintro e wn ⟨vn, rfl, on, hb2⟩; obtain ⟨An, Cn, rfl⟩ := own_form on; have BN : Below wb.heap.size wb wn := Below.trans (by first | (with_reducible exact Below.refl _ _) | go_grown) (hb2.mono (by first | (with_reducible exact Nat.le_refl _) | (with_reducible assumption) | (simp [go_sem]; done) | (simp [go_sem]; omega) | omega)); have SN := HSr.out wn BN; have yn := BN.size; obtain ⟨hcn, hfn⟩ := bcell hb2; (try (have an : wb.heap.size < wn.heap.size := Nat.lt_of_lt_of_le (by first | assumption | (simp [go_sem]; done) | (simp only [go_sem]; omega) | (simp [go_sem]; omega)) hb2.size)); clear hb2 on eJw eJn))
                  all_goals (go_wp2_with fail; go_meet)
                  all_goals refine ⟨_, .slice An ll.length Cn, rfl, rfl, rfl, ⟨?_, ?_⟩, ?_, ?_, ?_⟩
                  all_goals first
                    | (with_reducible exact Nat.le_refl _) | (with_reducible assumption)
                    | (go_grown; done)
                    | (simp [go_sem, *]; done)
                    | (simp; omega)
                case rest =>
                  clear eJw eJn
                  obtain ⟨wj, rfl⟩ : ∃ x : World, x = wc := ⟨_, rfl⟩
                  obtain ⟨gy, v5, rfl, rfl, rfl, ⟨g0, g1⟩, e0, e1, hb⟩ := hcut
                  clear c_wh_0 l_wh c_at_0 c_at_1 l_at
                  have CB3 := Lib.hid (CB2.out.trans (hb.mono CB2.out.size))
                  have BA3 := Lib.hid (BA2.out.below hb)
                  have HD3 := Lib.hid (HD2.out.below hb)
                  clear hb
                  have B_wh := Lib.hid (BC_wh.out.below CB3.out)
                  have B_st := Lib.hid (BC_st.out.below CB3.out)
                  have O_v := Lib.hid (own_below OC_v.out CB3.out)
                  have O_v2 := Lib.hid (own_below OC_v2.out CB3.out)
                  have old := Lib.hid (grown_again OLD.out CB3.out)
                  have B_at := BA3
                  have B_y := Lib.hid (Cels.two g1 e0 e1)
                  have hgy : wa.heap.size < gy := by have := BA2.out.lt; omega
                  have hgd : wia.heap.size < gy := by omega
                  clear g0 g1 e0 e1
                  have c_wh_0 := B_wh.out.cell 0 rfl
                  have l_wh := B_wh.out.lt
                  have c_st_0 := B_st.out.cell 0 rfl
                  have c_st_1 := B_st.out.cell 1 rfl
                  have l_st := B_st.out.lt
                  have c_at_0 := B_at.out.cell 0 rfl
                  have c_at_1 := B_at.out.cell 1 rfl
                  have l_at := B_at.out.lt
                  have c_y_0 := B_y.out.cell 0 rfl
                  have c_y_1 := B_y.out.cell 1 rfl
                  have l_y := B_y.out.lt
                  go_wp2_with fail
                  clear c_wh_0 l_wh c_st_0 c_st_1 l_st c_at_0 c_at_1 l_at c_y_0 c_y_1 l_y
                  go_loopw [19, 20] (fun a c wr => ∃ i : Nat, i ≤ rl.length ∧ c = .int .i64 (i : Int) ∧ a = .bool (inTo rl (y.1, y.2) i) ∧ Hid (Below wj.heap.size wj wr)) (fun _ c _ => rl.length - (intOf c).toNat)
                  case atStart => exact ⟨0, by omega, by go_num, by rw [inTo_zero], Lib.hid (Below.refl _ _)⟩
                  case round =>
                    obtain ⟨i, hi, rfl, rfl, hBb⟩ := hrel
                    obtain ⟨wib, rfl⟩ : ∃ y : World, y = wr := ⟨_, rfl⟩
                    have hb := hBb.out
                    have b_wib : Below wj.heap.size wj wib := Below.trans (by first | (with_reducible exact Below.refl _ _) | go_grown) (hb.mono (by first | (with_reducible exact Nat.le_refl _) | (with_reducible assumption) | (simp [go_sem]; done) | (simp [go_sem]; omega) | omega))
                    replace B_wh := Lib.hid (B_wh.out.below b_wib)
                    replace B_st := Lib.hid (B_st.out.below b_wib)
                    replace B_at := Lib.hid (B_at.out.below b_wib)
                    replace B_y := Lib.hid (B_y.out.below b_wib)
                    replace O_v := Lib.hid (own_below O_v.out b_wib)
                    replace O_v2 := Lib.hid (own_below O_v2.out b_wib)
                    replace old := Lib.hid (grown_again old.out b_wib)
                    clear hb b_wib
                    by_cases hlt : i < rl.length
                    · have i1 : (i : Int) < (rl.length : Int) := by omega
                      obtain ⟨A3, c3, e3, hac3, hac3', HA3⟩ := (SlP.of_own O_v2.out).open_
                      injection e3 with e31 _ e33
                      subst e31 e33
                      obtain ⟨ba, oa, rfl, hba, hca⟩ := HA3.out i hlt
                      obtain ⟨x, hxe⟩ : ∃ x, x = pi rl i := ⟨_, rfl⟩
                      have d0 : wib.cell? ⟨ba, oa + i * 2, none⟩ = some (.int .i64 x.1) := by rw [hxe]; exact (hca i hlt).1
                      have d1 : wib.cell? ⟨ba, oa + i * 2 + 1, none⟩ = some (.int .i64 x.2) := by rw [hxe]; exact (hca i hlt).2
                      have HI := Lib.hid (inTo_succ (x := (y.1, y.2)) hlt)
                      rw [← hxe] at HI
                      clear hac3' HA3 hca hxe
                      have hac4 : (rl.length : Int) ≤ (C_v2 : Int) := by omega
                      have c_y_0 := B_y.out.cell 0 rfl
                      have c_y_1 := B_y.out.cell 1 rfl
                      have l_y := B_y.out.lt
                      cases hf : inTo rl (y.1, y.2) i
                      · rw [hf] at HI
                        by_cases e1 : x.1 = y.1
                        · by_cases e2 : x.2 = y.2
                          · have HE := Lib.hid (show inTo rl (y.1, y.2) (i + 1) = true by rw [HI.out, show x = (y.1, y.2) from Prod.ext e1 e2]; simp)
                            rw [e1] at d0
                            rw [e2] at d1
                            clear e1 e2 hf
                            go_wp2_with fail
                            go_quiet (fail)
                            go_wp2_with fail
                            go_roundw
                            case rel => exact ⟨i + 1, by omega, by go_num, by rw [HE.out], Lib.hid (by first | exact hBb.out | exact below_drewN hBb.out _)⟩
                            case measure => simp [intOf]; omega
                          · have HE := Lib.hid (show inTo rl (y.1, y.2) (i + 1) = false by rw [HI.out]; simp; exact fun e => e2 (by rw [e]))
                            have n2 : (x.2 == y.2) = false := by simp [e2]
                            rw [e1] at d0
                            clear e1 e2 hf
                            go_wp2_with fail
                            go_quiet (fail)
                            go_wp2_with fail
                            go_roundw
                            case rel => exact ⟨i + 1, by omega, by go_num, by rw [HE.out], Lib.hid (by first | exact hBb.out | exact below_drewN hBb.out _)⟩
                            case measure => simp [intOf]; omega
                        · have HE := Lib.hid (show inTo rl (y.1, y.2) (i + 1) = false by rw [HI.out]; simp; exact fun e => e1 (by rw [e]))
                          have n1 : (x.1 == y.1) = false := by simp [e1]
                          clear e1 hf
                          go_wp2_with fail
                          go_quiet (fail)
                          go_wp2_with fail
                          go_roundw
                          case rel => exact ⟨i + 1, by omega, by go_num, by rw [HE.out], Lib.hid (by first | exact hBb.out | exact below_drewN hBb.out _)⟩
                          case measure => simp [intOf]; omega
                      · rw [hf] at HI
                        have HE := Lib.hid (show inTo rl (y.1, y.2) (i + 1) = true by rw [HI.out]; simp)
                        clear hf
                        go_wp2_with fail
                        go_quiet (fail)
                        go_wp2_with fail
                        go_roundw
                        case rel => exact ⟨i + 1, by omega, by go_num, by rw [HE.out], Lib.hid (by first | exact hBb.out | exact below_drewN hBb.out _)⟩
                        case measure => simp [intOf]; omega
                    · obtain rfl : i = rl.length := by omega
                      have e : inTo rl (y.1, y.2) rl.length = true := inTo_all HYR.out
                      rw [e]
                      clear e
                      have f_at := B_at.out.frozen 0
                      have f_at1 := B_at.out.frozen 1
                      have HD4 := Lib.hid (HD3.out.below hBb.out)
                      have CB4 := Lib.hid (CB3.out.trans (hBb.out.mono CB3.out.size))
                      have zwb := hBb.out.size
                      have zj := CB3.out.size
                      have n1 : ¬ gy = wa.heap.size := by omega
                      have n2 : ¬ wa.heap.size = gy := by omega
                      have c_wh_0 := B_wh.out.cell 0 rfl
                      have l_wh := B_wh.out.lt
                      have c_st_0 := B_st.out.cell 0 rfl
                      have c_st_1 := B_st.out.cell 1 rfl
                      have l_st := B_st.out.lt
                      have c_at_0 := B_at.out.cell 0 rfl
                      have c_at_1 := B_at.out.cell 1 rfl
                      have l_at := B_at.out.lt
                      have c_y_0 := B_y.out.cell 0 rfl
                      have c_y_1 := B_y.out.cell 1 rfl
                      have l_y := B_y.out.lt
                      go_wp2_with fail
                      go_roundw
                      case rel =>
                        refine ⟨k + 1, y, by omega, by go_num, HYR, Lib.hid (Blk.put2 B_at.out _ _), Lib.hid ?_, Lib.hid ?_⟩
                        · exact Dice.set_ (Dice.set_ HD4.out (by have := OLD.out.size; simp; omega) (by simp; omega) _) (by have := OLD.out.size; simp; omega) (by simp; omega) _
                        · exact (CB4.out.setCell (by simp; omega) _).setCell (by simp; omega) _
                      case measure => simp [intOf]; omega
              · have i1 : ¬ (0 : Int) < (s.size : Int) := by omega
                go_wp2_with fail
                go_ret
                exact ⟨rfl, old.out⟩
            · obtain rfl : k = 12 := by omega
              go_wp2_with fail
              go_ret
              exact ⟨rfl, old.out⟩

set_option maxRecDepth 100000 in
theorem fnReachableHands_lifted (os : Os) (started : os.Started) (H : Type) (enc : TypeId × Value → H) :
    ReturnsInHanded {} Tryd.checked os 11 .any (fun w args => (Rows.fnReachableHandsSpec.pre enc Tryd.prog Tryd.f11 Rows.fnReachableHandsRow.domain false w args ∧ laidMetH Tryd.prog Rows.fnReachableHandsRow.laid w) ∧ sizedMet enc Tryd.prog Tryd.f11 (OpenSpec.ofChange Rows.fnReachableHandsSpec) false w args)
      (Rows.fnReachableHandsSpec.post enc Tryd.prog Tryd.f11 false true false false) := by
  refine returnsInHanded_of_change_and (C := Tryd.checked) (X := fun w _ => laidMetH Tryd.prog Rows.fnReachableHandsRow.laid w) (fun _ _ _ hh h => h.of_heap hh) Tryd.own started (by kernel_rfl) Tryd.func11
    (ChangeSpec.witness_shaped (enc := enc) (C := Tryd.checked) (os := os) (X := fun w _ => laidMetH Tryd.prog Rows.fnReachableHandsRow.laid w) false (World.laidAll Tryd.prog os Rows.fnReachableHandsRow.laid) #[.slice none 0 0] 8 (World.laidAll_os _ _ _)
      (World.shaped_of_ZipB (by kernel_rfl) (by kernel_rfl)) (by kernel_rfl) (by kernel_rfl) (by kernel_rfl)
      (by rw [MakeChecks.laidMetH_plain _ _ _ (by kernel_rfl)]; exact laidMet_laidAll _ (by kernel_rfl) (by kernel_rfl))) ?_
  intro W base args ds gs before hval0 hW hcnd _ _ _
  have hval : ∀ (j : Nat) t v, Tryd.f11.params[j]? = some t → args[j]? = some v → Value.okWide Tryd.prog W .any base t v := hval0
  have hW' := hW
  have hltB : ∀ x ∈ before, x.block < W.heap.size := fun x hx => hW.lt x hx
  obtain ⟨p, q, hA0, hV, rfl, hfz, hnd⟩ := hW
  have hA : DataW.TrodAll enc Tryd.prog W 0 (fun _ => true) true Tryd.f11.params.toList args.toList ds p := hA0
  rw [Tryd.params11] at hA hval
  obtain ⟨v0, vs0, d0, ds0, p0, q0, hargs, rfl, rfl, h0, r0⟩ := trodAll_cons hA
  obtain ⟨rfl, rfl, rfl⟩ := trodAll_nil r0
  obtain rfl : args = #[v0] := by cases args; simp_all
  clear hA0 hval0 hA hcnd hfz hnd
  have hlt0 : ∀ x ∈ p0, x.block < W.heap.size := fun x hx => hltB x (by simp [hx])
  obtain ⟨a0, n0, c0, rfl⟩ := okWide_slice Tryd.underlying44 (hval 0 44 v0 rfl rfl)
  obtain ⟨fu0, hf0⟩ := h0
  obtain ⟨bs, hbs, _⟩ := trod_bytes Tryd.underlying44 Tryd.underlying5 (by kernel_rfl) hf0 hlt0
  refine (reachable_walk _ bs W hbs).mono fun e W' ⟨he, hb⟩ => ?_
  subst he
  exact ⟨_, rfl, post_law Tryd.laidOut hW' rfl rfl (by kernel_rfl) (by kernel_rfl) Tryd.underlying4 hb⟩

set_option maxHeartbeats 2000000 in
theorem fnReachableHands_facts : joinedFacts Tryd.prog 11 Tryd.f11 Rows.fnReachableHandsSpec Rows.fnReachableHandsRow = true := by
  unfold joinedFacts
  simp only [Bool.and_eq_true]
  repeat' apply And.intro
  all_goals first | with_reducible exact Tryd.laidOut | with_reducible exact Tryd.g2 | with_reducible exact Tryd.g24 | with_reducible exact Tryd.g25 | (rw [Tryd.g26]; rfl) | (rw [Tryd.g27]; rfl) | as_aux_lemma => kernel_rfl
/-- The statement. -/
theorem fnReachableHands_holds : Rows.FnReachableHandsSaid :=
  OpenClaim.holds_of_wide 11 Tryd.f11 rfl rfl rfl rfl rfl rfl rfl ⟨rfl, rfl, rfl, rfl, rfl⟩ rfl rfl rfl rfl rfl (by as_aux_lemma => kernel_rfl) Tryd.func11 fnReachableHands_facts
    (by as_aux_lemma => exact of_decide_eq_true (by kernel_rfl)) (by as_aux_lemma => unfold Func.isWrapper; rw [if_neg (of_decide_eq_false (by kernel_rfl))]; exact ⟨rfl, rfl⟩)
    (fun os started H enc _ => fnReachableHands_lifted os started H enc)
/-- The card. -/
theorem fnReachableHands_card : Rows.FnReachableHandsCardSaid :=
  Claim7.holds_tied_plain_at .later [] [.data, .pinned] true (true, "a60b9ccea365084ae19031547614f694475d4502188d491dabf98e0fff8eab37") false fnReachableHands_holds (fun _ h => by cases h) (by kernel_rfl) (fun _ h => by cases h) fnReachableHands_row_tie rfl ⟨rfl, rfl⟩ (by kernel_rfl) rfl
    (fun f fn hf hfn => by
      obtain rfl : f = 11 := Option.some.inj ((show Tryd.prog.funcNamed "loop.example/g00921/laws.FnReachableHands" = some 11 by kernel_rfl).symm.trans hf) |>.symm
      obtain rfl : fn = Tryd.f11 := (Option.some.inj (Tryd.func11.symm.trans hfn)).symm
      exact ⟨by kernel_rfl, fun j t ht => by
        rw [Tryd.params11] at ht
        have hm : t ∈ [44] := by simpa using Array.mem_of_getElem? ht
        have hall : ([44].all fun u => !Tryd.prog.wantsStandIn u) = true := by kernel_rfl
        exact (show Tryd.prog.wantsStandIn t = false by simpa using List.all_eq_true.1 hall t hm)⟩)
    (by kernel_rfl)
#print axioms fnReachableHands_card
end Go.Proofs.YtfddibdncniekaaDoor
