/- Racks: RackStates in the reference: a queue with doubles, and a mark for each state's number. -/
import Derived.Test.YtdlegcjcmhpbcaaRkH
namespace Go.Proofs.Ytdlegcjcmhpbcaa
open Go.RowKit
attribute [local go_sem ↓] Go.wp_at_zero Go.wp_at_succ

/-- The marks: one for each number of a state. -/
def SeenB (w : World) (k : Nat) (T : List (Int × Int)) : Prop := ∃ cur, Blk w k 4 cur ∧ cur.size = 1440 ∧ ∀ c, c < 1440 → cur[c]? = some (.bool (decide (c ∈ T.map cdP)))
section
variable {w w' : World} {k : Nat} {T : List (Int × Int)}
theorem SeenB.lt (h : SeenB w k T) : k < w.heap.size := by obtain ⟨cur, hb, _⟩ := h; exact hb.lt
theorem SeenB.cell (h : SeenB w k T) {c : Nat} (hc : c < 1440) : w.cell? ⟨k, c, none⟩ = some (.bool (decide (c ∈ T.map cdP))) := by
  obtain ⟨cur, hb, _, h2⟩ := h
  exact hb.cell c (h2 c hc)
theorem SeenB.frozen (h : SeenB w k T) (c : Nat) : w.frozen? ⟨k, c, none⟩ = false := by
  obtain ⟨cur, hb, _, h2⟩ := h
  exact hb.frozen c
theorem SeenB.mark (h : SeenB w k T) (x : Int × Int) (hx : cdP x < 1440) : SeenB (w.setCell ⟨k, cdP x, none⟩ (.bool true)) k (T ++ [x]) := by
  obtain ⟨cur, hb, h1, h2⟩ := h
  refine ⟨_, hb.set_ (cdP x) (.bool true), by simp [h1], fun c hc => ?_⟩
  rw [Array.getElem?_setIfInBounds]
  by_cases e : cdP x = c
  · subst e; rw [if_pos rfl, if_pos (by omega)]; simp
  · rw [if_neg e, h2 c hc, List.map_append, List.map_singleton]
    have : (c ∈ T.map cdP ++ [cdP x]) ↔ c ∈ T.map cdP := by
      rw [List.mem_append, List.mem_singleton]
      exact ⟨fun h => h.elim id fun h => absurd h.symm e, Or.inl⟩
    simp only [this]
theorem SeenB.below (h : SeenB w k T) (hb : Below w.heap.size w w') : SeenB w' k T := by
  obtain ⟨cur, h0, h1⟩ := h
  exact ⟨cur, h0.below hb, h1⟩
theorem SeenB.alloc (h : SeenB w k T) (o : Obj) : SeenB (w.alloc o) k T := h.below ((Below.refl _ _).alloc (Nat.le_refl _) o)
theorem SeenB.kept {row : Option Nat} (h : SeenB w k T) (hg : w.grownBy w' row) (hne : some k ≠ row) : SeenB w' k T := by
  have hl := h.lt
  obtain ⟨cur, h0, h1⟩ := h
  exact ⟨cur, (hg.block k hl hne).trans h0, h1⟩
end

/-- The marked states T and the queue Q, in the reference. -/
structure Bfq (ds : List Int) (wn : Int) (x0 : Int × Int) (T Q : List (Int × Int)) : Prop where
  nodup : T.Nodup
  valid : ∀ y ∈ T, StP ds wn y
  qvalid : ∀ y ∈ Q, StP ds wn y
  start : x0 ∈ T ∨ x0 ∈ Q
  tick : ∀ y ∈ T, tkP ds wn y ∈ T ∨ tkP ds wn y ∈ Q
  back : ∀ y ∈ T, bkP y ∈ T ∨ bkP y ∈ Q
  len : Q.length ≤ T.length + 1
section
variable {ds : List Int} {wn : Int} {x0 x : Int × Int} {T Q : List (Int × Int)}
theorem Bfq.begin (h : StP ds wn x0) : Bfq ds wn x0 [] [x0] := ⟨List.nodup_nil, fun y hy => (by cases hy), fun y hy => (by rw [List.mem_singleton.1 hy]; exact h), .inr (by simp), fun y hy => (by cases hy), fun y hy => (by cases hy), by simp⟩
theorem Bfq.skip (h : Bfq ds wn x0 T (x :: Q)) (hx : x ∈ T) : Bfq ds wn x0 T Q := by
  have key : ∀ y, y ∈ T ∨ y ∈ x :: Q → y ∈ T ∨ y ∈ Q := fun y hy => by
    rcases hy with hy | hy
    · exact .inl hy
    · rcases List.mem_cons.1 hy with rfl | hy
      · exact .inl hx
      · exact .inr hy
  have := h.len
  rw [List.length_cons] at this
  exact ⟨h.nodup, h.valid, fun y hy => h.qvalid y (List.mem_cons_of_mem _ hy), key _ h.start, fun y hy => key _ (h.tick y hy), fun y hy => key _ (h.back y hy), by omega⟩
theorem Bfq.mark (h : Bfq ds wn x0 T (x :: Q)) (hr : RkOk ds wn) (hx : ¬ x ∈ T) : Bfq ds wn x0 (T ++ [x]) (Q ++ [tkP ds wn x, bkP x]) := by
  have key : ∀ y, y ∈ T ∨ y ∈ x :: Q → y ∈ T ++ [x] ∨ y ∈ Q ++ [tkP ds wn x, bkP x] := fun y hy => by
    rcases hy with hy | hy
    · exact .inl (List.mem_append_left _ hy)
    · rcases List.mem_cons.1 hy with rfl | hy
      · exact .inl (by simp)
      · exact .inr (List.mem_append_left _ hy)
  have hxv := h.qvalid x (by simp)
  have := h.len
  rw [List.length_cons] at this
  refine ⟨?_, fun y hy => ?_, fun y hy => ?_, key _ h.start, fun y hy => ?_, fun y hy => ?_, by simp; omega⟩
  · rw [List.nodup_append]
    exact ⟨h.nodup, by simp, fun a ha b hb e => hx (by rw [← List.mem_singleton.1 hb, ← e]; exact ha)⟩
  · rcases List.mem_append.1 hy with hy | hy
    · exact h.valid y hy
    · rw [List.mem_singleton.1 hy]; exact hxv
  · rcases List.mem_append.1 hy with hy | hy
    · exact h.qvalid y (List.mem_cons_of_mem _ hy)
    · rcases (by simpa using hy : y = tkP ds wn x ∨ y = bkP x) with rfl | rfl
      · exact hxv.tick hr
      · exact StP.back ds wn _
  · rcases List.mem_append.1 hy with hy | hy
    · exact key _ (h.tick y hy)
    · rw [List.mem_singleton.1 hy]; exact .inr (by simp)
  · rcases List.mem_append.1 hy with hy | hy
    · exact key _ (h.back y hy)
    · rw [List.mem_singleton.1 hy]; exact .inr (by simp)
theorem Bfq.all (h : Bfq ds wn x0 T []) (hr : RkOk ds wn) : (T.length : Int) = 720 + 12 * wn := by
  have key : ∀ y, y ∈ T ∨ y ∈ ([] : List (Int × Int)) → y ∈ T := fun y hy => hy.elim id fun h => by cases h
  exact count_all hr h.nodup h.valid (key _ h.start) (fun y hy => key _ (h.tick y hy)) (fun y hy => key _ (h.back y hy))
theorem Bfq.seen (h : Bfq ds wn x0 T (x :: Q)) (hr : RkOk ds wn) : cdP x ∈ T.map cdP ↔ x ∈ T := by
  rw [List.mem_map]
  constructor
  · rintro ⟨y, hy, e⟩
    exact cdP_inj hr (h.valid y hy) (h.qvalid x (by simp)) e ▸ hy
  · intro h; exact ⟨x, h, rfl⟩
end

theorem mk0 : ∃ M : Array Value, M.size = 1440 ∧ (∀ c, c < 1440 → M[c]? = some (.bool false)) ∧ ∀ w, (Instr.makeSlice 49 (.int .i64 1440) (.int .i64 1440)).run Try.prog w = .ok (.slice (some ⟨w.heap.size, 0, none⟩) 1440 1440) (w.alloc (.cells M 4)) := by
  obtain ⟨i0, hi, hz0, hz1, hz2⟩ := info_parts (show (Try.prog.info? 4).map (fun i => (i.zero, i.size, i.bytes)) = some (some (.bool false), 1, 1) by kernel_rfl)
  refine ⟨madeCells #[.bool false] 1440, size_madeCells _ _, fun c hc => ?_, fun w => ?_⟩
  · rw [← Array.getElem?_toList, toList_madeCells_one, List.getElem?_replicate, if_pos hc]
  · have h := run_make (P := Try.prog) w 49 4 i0 (.bool false) Try.underlying49 hi hz0 .i64 .i64 1440 1440 (by decide) (by decide) (by rw [hz2]; decide) (by decide)
    rw [hz1] at h
    exact h

set_option maxRecDepth 100000 in
set_option maxHeartbeats 8000000 in
theorem RackStates_s0 (v : Value) (ds : List Int) (wn m rd : Int) (w : World) (hv : Sl w v ds) (hs : stB ds wn m rd = true) :
    Calls Try.prog 8 #[.agg #[v, .int .i64 wn], .agg #[.int .i64 m, .int .i64 rd]] w fun e w' => e = .returned (.tuple #[.int .i64 (720 + 12 * wn), .int .i64 0]) ∧ Below w.heap.size w w' := by
  have H1 := Lib.hid (fun w' (hb : Below w.heap.size w w') => l21State_any v ds wn m rd w' (hv.below hb))
  obtain ⟨hr, hst⟩ := stB_iff.1 hs
  have H2 := Lib.hid (fun (x : Int × Int) w' (hb : Below w.heap.size w w') (hx : StP ds wn x) => l21Tick_any v ds wn x.1 x.2 w' (hv.below hb) hr hx.1.1 hx.1.2)
  have HF := Lib.hid (fun (x : Int × Int) w' (hx : StP ds wn x) => l19Mod_any (x.1 - 1) 720 w' (by omega) (by omega) (by have := hx.1.1; omega) (by have := hx.1.2; omega))
  have HB := Lib.hid hs
  have HR := Lib.hid hr
  have HX := Lib.hid (show StP ds wn (m, rd) from hst)
  clear hv hs hr hst
  go_enter Try.func8, Try.ntmps8
  obtain ⟨k0, k1⟩ := bx2 w 26 28 #[v, .int .i64 wn] #[.int .i64 m, .int .i64 rd]
  have HK0 := Lib.hid k0
  have HK1 := Lib.hid k1
  clear k0 k1
  go_wp2_with fail
  refine (H1.out _ (by go_grown)).mono ?_
  rintro e w1 ⟨rfl, hb1⟩
  rw [HB.out]
  have J0 := Lib.hid (HK0.out.below hb1)
  have J1 := Lib.hid (HK1.out.below hb1)
  have q2 := J1.out.cell 0 rfl
  have q3 := J1.out.cell 1 rfl
  have z1 := J1.out.lt
  have B1 : Below w.heap.size w w1 := Below.trans (by go_grown) (hb1.mono (by simp; omega))
  clear hb1 HK0 HK1
  obtain ⟨M, hM1, hM2, hmk⟩ := mk0
  have HM1 := Lib.hid hM1
  have HM2 := Lib.hid hM2
  have HB1 := Lib.hid B1
  have HZ1 := Lib.hid z1
  clear hM1 hM2 B1
  go_wp2_with fail
  clear q2 q3 z1
  go_loopg [7, 8] 2881 (fun gk x7 x8 wr => ∃ T Q, gk = 2 * (1440 - T.length) + Q.length ∧ x8 = .int .i64 (T.length : Int) ∧ Hid (Bfq ds wn (m, rd) T Q) ∧ Que wr (w1.heap.size + 1) 28 x7 Q ∧ SeenB wr w1.heap.size T ∧ Blk wr w.heap.size 26 #[v, .int .i64 wn] ∧ Below w.heap.size w wr)
  case atStart =>
    refine ⟨[], [(m, rd)], rfl, rfl, Lib.hid (Bfq.begin HX.out), ?_, ?_, ?_, ?_⟩
    · have hz : (w1.alloc (.cells M 4)).heap.size = w1.heap.size + 1 := by simp
      rw [← hz]
      exact Que.of_own (ps := [(m, rd)]) (World.ownsRow_lit (w1.alloc (.cells M 4)) #[.int .i64 m, .int .i64 rd] 1 (Nat.le_refl _) (by decide) rfl) (Nat.le_refl 1)
    · refine SeenB.alloc ⟨M, Blk.new _ _ _, HM1.out, fun c hc => ?_⟩ _
      rw [HM2.out c hc]; simp
    · exact (J0.out.alloc _).alloc _
    · have := HB1.out.size; exact (HB1.out.alloc this _).alloc (by simp; omega) _
  case round =>
    obtain ⟨T, Q, rfl, rfl, hbf, hq, hse, b0, hB⟩ := hrel
    clear J0 J1 hmk
    cases Q with
    | nil =>
      obtain ⟨g, off, cap, rfl, _, _, _, _, _⟩ := hq.open_
      have HA := Lib.hid (hbf.out.all HR.out)
      have e0 : ([] : List (Int × Int)).length = 0 := rfl
      clear hq hse b0
      go_wp2_with fail
      refine bodyPost_ret (v := .tuple #[.int .i64 T.length, .int .i64 0]) ?_ rfl ?_
      · simp [results, Try.results8, go_sem]
      exact ⟨by rw [HA.out], hB⟩
    | cons x Q =>
      have hxv : StP ds wn x := hbf.out.qvalid x (by simp)
      obtain ⟨g, off, cap, rfl, hg1, hg2, hc1, hc2, HC⟩ := hq.open_
      have c0 : wr.cell? ⟨g, off, none⟩ = some (.int .i64 x.1) := (HC.out 0 (by simp)).1
      have c1 : wr.cell? ⟨g, off + 1, none⟩ = some (.int .i64 x.2) := (HC.out 0 (by simp)).2
      have z0 := b0.lt
      have hxm := hxv.1
      have hxr := stOk_in HR.out hxv
      have hcd := cdP_lt hxv
      have htl : T.length ≤ 1440 := count_le HR.out hbf.out.nodup hbf.out.valid
      have HQ := Lib.hid hq
      have HSe := Lib.hid hse
      have P0 := Lib.hid b0
      have HBw := Lib.hid hB
      have HXV := Lib.hid hxv
      have i1 : (0 : Int) < ((x :: Q).length : Int) := by rw [List.length_cons]; omega
      obtain ⟨n, hn⟩ : ∃ n, n = (x :: Q).length := ⟨_, rfl⟩
      rw [← hn] at i1
      rw [← hn] at hc1 ⊢
      have HL := Lib.hid hn
      clear hq hse b0 hxv hn HC hB
      have nn : ¬ (n : Int) ≤ 0 := by omega
      have nn2 : 0 < n := by omega
      have nn3 : (1 : Int) ≤ (n : Int) := by omega
      have nn4 : (n : Int) ≤ (cap : Int) := by omega
      have nn5 : (1 : Int) ≤ (cap : Int) := by omega
      have ht0 : (0 : Int) ≤ T.length := by omega
      go_upto_region 8 with fail
      go_cut [7] (fun a7 wq => Que wq (w1.heap.size + 1) 28 a7 Q ∧ wq.cell? ⟨wr.heap.size, 0, none⟩ = some (.int .i64 x.1) ∧ wq.cell? ⟨wr.heap.size, 1, none⟩ = some (.int .i64 x.2) ∧ wr.heap.size < wq.heap.size ∧ Below wr.heap.size wr wq)
      case first =>
        have ba : Below wr.heap.size wr (wr.alloc (.cells #[.int .i64 x.1, .int .i64 x.2] 28)) := (Below.refl _ _).alloc (Nat.le_refl _) _
        have HBa := Lib.hid ba
        by_cases hcap : cap = 1
        · subst hcap
          have HP2 := Lib.hid HQ.out.pop0
          have h3 := HQ.out.pop0
          rw [← HL.out] at h3
          rw [show n - 1 = 0 by omega] at h3
          have HP3 := Lib.hid h3
          clear h3 ba
          go_wp2_with fail
          all_goals (
            go_meet
            refine ⟨?_, by simp [go_sem], by simp [go_sem], by simp, HBa.out⟩
            first | exact HP3.out.below HBa.out | (have := HP2.out.below HBa.out; rwa [← HL.out] at this))
        · have hcap2 : ¬ cap - 1 = 0 := by omega
          have h3 := HQ.out.pop
          rw [← HL.out] at h3
          have HP2 := Lib.hid h3
          clear h3 ba
          go_wp2_with fail
          go_meet
          exact ⟨HP2.out.below HBa.out, by simp [go_sem], by simp [go_sem], by simp, HBa.out⟩
      case rest =>
        obtain ⟨wq, rfl⟩ : ∃ y : World, y = wc := ⟨_, rfl⟩
        obtain ⟨hq, d0, d1, zq, hbq⟩ := hcut
        have HQ2 := Lib.hid hq
        have HSe2 := Lib.hid (HSe.out.below hbq)
        have P2 := Lib.hid (P0.out.below hbq)
        have HBq := Lib.hid hbq
        have hmap := HSe.out.lt
        clear c0 c1 hq hbq HQ HSe P0
        go_upto_if 34 with fail
        go_cut [10] (fun a10 wx => a10 = .int .i64 (cdP x : Int) ∧ wq = wx)
        case first =>
          obtain ⟨hxm0, hxm1⟩ := hxm
          by_cases hx2 : 0 < x.2
          · have hc : (2 * x.1 + 1 : Int) = (cdP x : Int) := by unfold cdP; rw [if_pos hx2]; omega
            have HC := Lib.hid hc
            clear hc
            go_wp2_with fail
            go_meet
            exact ⟨by rw [HC.out], rfl⟩
          · have hc : (2 * x.1 : Int) = (cdP x : Int) := by unfold cdP; rw [if_neg hx2]; omega
            have HC := Lib.hid hc
            clear hc
            go_wp2_with fail
            go_meet
            exact ⟨by rw [HC.out], rfl⟩
        case rest =>
          obtain ⟨rfl, rfl⟩ := hcut
          obtain ⟨c, hc⟩ : ∃ c, c = cdP x := ⟨_, rfl⟩
          have hcd' : c < 1440 := by omega
          rw [← hc]
          have HC := Lib.hid hc
          have hc0 : (0 : Int) ≤ (c : Int) := by omega
          have hc1' : (c : Int) < 1440 := by omega
          by_cases hin : x ∈ T
          · have q : wq.cell? ⟨w1.heap.size, c, none⟩ = some (.bool true) := by
              have := HSe2.out.cell hcd'
              rw [this, hc, decide_eq_true ((hbf.out.seen HR.out).2 hin)]
            have HBf := Lib.hid (hbf.out.skip hin)
            have HMs := Lib.hid (show 2 * (1440 - T.length) + Q.length < 2 * (1440 - T.length) + (x :: Q).length by rw [List.length_cons]; omega)
            clear hc hin hcd
            go_wp2_with fail
            go_roundg (2 * (1440 - T.length) + Q.length)
            case measure => exact HMs.out
            case rel => exact ⟨_, _, rfl, rfl, HBf.out, HQ2.out, HSe2.out, P2.out, HBw.out.trans (HBq.out.mono HBw.out.size)⟩
          · have q : wq.cell? ⟨w1.heap.size, c, none⟩ = some (.bool false) := by
              have := HSe2.out.cell hcd'
              rw [this, hc, decide_eq_false (fun h => hin ((hbf.out.seen HR.out).1 h))]
            have f := HSe2.out.frozen c
            have hbm := hbf.out.mark HR.out hin
            have HBf := Lib.hid hbm
            have hl2 : (T ++ [x]).length ≤ 1440 := count_le HR.out hbm.nodup hbm.valid
            rw [List.length_append] at hl2
            have hl3 : T.length < 1440 := by simp only [List.length_singleton] at hl2; omega
            have HMs := Lib.hid (show 2 * (1440 - (T ++ [x]).length) + (Q ++ [tkP ds wn x, bkP x]).length < 2 * (1440 - T.length) + (x :: Q).length by simp; omega)
            have HSe3 := Lib.hid (show SeenB (wq.setCell ⟨w1.heap.size, c, none⟩ (.bool true)) w1.heap.size (T ++ [x]) by rw [hc]; exact HSe2.out.mark x hcd)
            have HQl : Q.length ≤ 1440 := by have := hbf.out.len; rw [List.length_cons] at this; omega
            have HQL := Lib.hid HQl
            have bq : Below (w.heap.size + 1) wq (wq.setCell ⟨w1.heap.size, c, none⟩ (.bool true)) := (Below.refl _ _).setCell (by have := HZ1.out; simp; omega) _
            clear hc hin hbm hl2 HQl hcd
            go_upto_region 15 with fail
            obtain ⟨ws, hws⟩ : ∃ ws : World, ws = wq.setCell ⟨w1.heap.size, c, none⟩ (.bool true) := ⟨_, rfl⟩
            have ez : ws.heap.size = wq.heap.size := by rw [hws]; simp
            have HSe4 : Hid (SeenB ws w1.heap.size (T ++ [x])) := by rw [hws]; exact HSe3.out
            have bq2 : Below (w.heap.size + 1) wq ws := by rw [hws]; exact bq
            have HQ3 : Hid (Que ws (w1.heap.size + 1) 28 u7 Q) := by
              rw [hws]
              exact HQ2.out.far (fun e => by have := HQ2.out.lt _ e.symm; simp only at this; omega) _
            have P3 : Hid (Blk ws w.heap.size 26 #[v, .int .i64 wn]) := P2.out.belowB bq2 (by omega)
            have HBs := Lib.hid ((HBw.out.trans (HBq.out.mono HBw.out.size)).trans (bq2.mono (by omega)))
            have ne1 : ¬ w1.heap.size = wr.heap.size := by omega
            have ne2 : ¬ wr.heap.size = w1.heap.size := by omega
            have s0 : ws.cell? ⟨wr.heap.size, 0, none⟩ = some (.int .i64 x.1) := by rw [hws]; simp [go_sem, *]
            have s1 : ws.cell? ⟨wr.heap.size, 1, none⟩ = some (.int .i64 x.2) := by rw [hws]; simp [go_sem, *]
            have zs : wr.heap.size < ws.heap.size := by omega
            rw [← hws]
            clear hws HSe3 bq bq2 q f d0 d1 HQ2 P2 HSe2
            have q0 := P3.out.cell 0 rfl
            have q1 := P3.out.cell 1 rfl
            have z3 := P3.out.lt
            go_wp2_with fail
            refine (H2.out x _ HBs.out HXV.out).mono ?_
            rintro e w3 ⟨rfl, hb2⟩
            have d0 := (hb2.cell (p := ⟨wr.heap.size, 0, none⟩) zs).trans s0
            have d1 := (hb2.cell (p := ⟨wr.heap.size, 1, none⟩) zs).trans s1
            have HB3 := Lib.hid hb2
            have HQ5 := Lib.hid (HQ3.out.below hb2)
            have HSe5 := Lib.hid (HSe4.out.below hb2)
            have P5 := Lib.hid (P3.out.below hb2)
            have z35 := hb2.size
            have zw3 : wr.heap.size < w3.heap.size := by omega
            have hx719 : x.1 ≤ 719 := HXV.out.1.2
            have hx0 : 0 ≤ x.1 := HXV.out.1.1
            obtain ⟨i0, hinf, hz0, hz1, hz2⟩ := info_parts rs_info
            have HI0 := Lib.hid hinf
            have HI1 := Lib.hid hz0
            have HI2 := Lib.hid hz1
            have HI3 := Lib.hid hz2
            have HX3 := Lib.hid (bx3 w3 28 28 28 #[.int .i64 (tkM x.1), .int .i64 (tkR ds wn x.1 x.2)] #[.int .i64 ((x.1 - 1) % 720), .int .i64 0] #[.int .i64 (tkM x.1), .int .i64 (tkR ds wn x.1 x.2), .int .i64 ((x.1 - 1) % 720), .int .i64 0])
            clear hinf hz0 hz1 hz2 q0 q1 s0 s1 hb2 HQ3 HSe4 P3
            go_wp2_with (first
              | (go_at_call 22; refine (HF.out x _ HXV.out).mono ?_; rintro e w' ⟨rfl, rfl⟩)
              | (at_builtin; refine wpList_appq2 rfl _ _ _ rfl _ i0 _ 16 Try.underlying45 HI0.out HI1.out HI2.out HI3.out rfl (by decide) (w1.heap.size + 1) u7 _ rfl (((HQ5.out.alloc _).alloc _).alloc _) (tkP ds wn x) (bkP x) ⟨w3.heap.size + 1 + 1, 0, none⟩ rfl (HX3.out.2.2.cell 0 rfl) (HX3.out.2.2.cell 1 rfl) (HX3.out.2.2.cell 2 rfl) (HX3.out.2.2.cell 3 rfl) (by have := HQL.out; omega) (by simp; omega) ?_; intro v6 w6 hq6 hb6 hg6 hk6; have HQ6 := Lib.hid hq6; have HB6 := Lib.hid hb6; have HG6 := Lib.hid hg6; clear hq6 hb6 hg6 hk6))
            go_roundg (2 * (1440 - (T ++ [x]).length) + (Q ++ [tkP ds wn x, bkP x]).length)
            case measure => exact HMs.out
            case rel =>
              have zw := HZ1.out
              have nb : ∀ k, u7.ownBlock = some k → w1.heap.size + 1 ≤ k := fun k hk => (HQ5.out.lt k hk).1
              refine ⟨T ++ [x], Q ++ [tkP ds wn x, bkP x], rfl, by simp, HBf.out, HQ6.out, ?_, ?_, ?_⟩
              · exact (((HSe5.out.alloc _).alloc _).alloc _).kept HG6.out (fun e => by have := nb _ e.symm; omega)
              · exact (((P5.out.alloc _).alloc _).alloc _).belowB HB6.out (by omega)
              · refine Below.trans ?_ (HB6.out.mono (by omega))
                exact ((((HBs.out.trans (HB3.out.mono HBs.out.size)).alloc (by have := HBs.out.size; omega) _).alloc (by have := HBs.out.size; simp; omega) _).alloc (by have := HBs.out.size; simp; omega) _)

set_option maxHeartbeats 2000000 in
theorem RackStates_i1 (v : Value) (ds : List Int) (wn m rd : Int) (w : World) (hv : Sl w v ds) (hs : stB ds wn m rd = false) :
    Calls Try.prog 7 #[.agg #[v, .int .i64 wn], .agg #[.int .i64 m, .int .i64 rd]] w fun e w' => e = .returned (.tuple #[.int .i64 0, .int .i64 1]) ∧ Below w.heap.size w w' := by
  have H1 := Lib.hid (fun w' (hb : Below w.heap.size w w') => ValidRackState_i v ds wn m rd w' (hv.below hb))
  have HB := Lib.hid hs
  clear hv hs
  go_enter Try.func7, Try.ntmps7
  go_wp2_with fail
  refine (H1.out _ (by go_grown)).mono ?_
  rintro e w1 ⟨rfl, hb1⟩
  rw [HB.out]
  have B1 : Below w.heap.size w w1 := Below.trans (by go_grown) (hb1.mono (by simp; omega))
  go_wp2_with fail
  refine bodyPost_ret (v := .tuple #[.int .i64 0, .int .i64 1]) ?_ rfl ?_
  · simp [results, Try.results7, go_sem]
  exact ⟨rfl, B1⟩

set_option maxHeartbeats 2000000 in
theorem RackStates_s1 (v : Value) (ds : List Int) (wn m rd : Int) (w : World) (hv : Sl w v ds) (hs : stB ds wn m rd = false) :
    Calls Try.prog 8 #[.agg #[v, .int .i64 wn], .agg #[.int .i64 m, .int .i64 rd]] w fun e w' => e = .returned (.tuple #[.int .i64 0, .int .i64 1]) ∧ Below w.heap.size w w' := by
  have H1 := Lib.hid (fun w' (hb : Below w.heap.size w w') => l21State_any v ds wn m rd w' (hv.below hb))
  have HB := Lib.hid hs
  clear hv hs
  go_enter Try.func8, Try.ntmps8
  go_wp2_with fail
  refine (H1.out _ (by go_grown)).mono ?_
  rintro e w1 ⟨rfl, hb1⟩
  rw [HB.out]
  have B1 : Below w.heap.size w w1 := Below.trans (by go_grown) (hb1.mono (by simp; omega))
  go_wp2_with fail
  refine bodyPost_ret (v := .tuple #[.int .i64 0, .int .i64 1]) ?_ rfl ?_
  · simp [results, Try.results8, go_sem]
  exact ⟨rfl, B1⟩

theorem RackStates_both (ds : List Int) (wn m rd : Int) : ∃ ra rb : Int,
    (∀ v w, Sl w v ds → Calls Try.prog 7 #[.agg #[v, .int .i64 wn], .agg #[.int .i64 m, .int .i64 rd]] w fun e w' => e = .returned (.tuple #[.int .i64 ra, .int .i64 rb]) ∧ Below w.heap.size w w') ∧
    (∀ v w, Sl w v ds → Calls Try.prog 8 #[.agg #[v, .int .i64 wn], .agg #[.int .i64 m, .int .i64 rd]] w fun e w' => e = .returned (.tuple #[.int .i64 ra, .int .i64 rb]) ∧ Below w.heap.size w w') := by
  cases hs : stB ds wn m rd with
  | true => exact ⟨_, _, fun v w hv => RackStates_i0 v ds wn m rd w hv hs, fun v w hv => RackStates_s0 v ds wn m rd w hv hs⟩
  | false => exact ⟨_, _, fun v w hv => RackStates_i1 v ds wn m rd w hv hs, fun v w hv => RackStates_s1 v ds wn m rd w hv hs⟩
end Go.Proofs.Ytdlegcjcmhpbcaa
