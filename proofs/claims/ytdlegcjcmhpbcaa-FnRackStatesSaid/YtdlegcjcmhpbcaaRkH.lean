/- Racks: RackStates in the program: the queue is what stands in the set from some place on. -/
import Derived.Test.YtdlegcjcmhpbcaaRkG
import Derived.Test.YtdlegcjcmhpbcaaRkT
import Derived.Test.YtdlegcjcmhpbcaaQue
import Derived.Test.YtdlegcjcmhpbcaaMpRackState
import Derived.Test.YtdlegcjcmhpbcaaFl
import Derived.Deep.RegionHeld3
import Derived.Deep.DeepCutAuto
import Derived.Deep.LoopGhost
import Derived.Carry
namespace Go.Proofs.Ytdlegcjcmhpbcaa
open Go.RowKit
attribute [local go_sem ↓] Go.wp_at_zero Go.wp_at_succ

set_option maxHeartbeats 1000000 in
theorem backP_any (m rd : Int) (w : World) (h3 : 0 ≤ m) (h4 : m ≤ 719) :
    Calls Try.prog 19 #[.agg #[.int .i64 m, .int .i64 rd], .int .i64 1] w fun e w' => e = .returned (.agg #[.int .i64 (bkP (m, rd)).1, .int .i64 (bkP (m, rd)).2]) ∧ Below w.heap.size w w' := by
  have HF := Lib.hid (fun w => floorMod_any (m - 1) 720 w (by omega) (by omega) (by omega) (by omega))
  go_enter Try.func19, Try.ntmps19
  go_wp2_with (go_at_call 37; refine (HF.out _).mono ?_; rintro e w' ⟨rfl, rfl⟩)
  try simp only [Exit.inBlock, Exit.then]
  refine bodyPost_ret (v := .agg #[.int .i64 ((m - 1) % 720), .int .i64 0]) ?_ rfl ?_
  · simp [results, Try.results19, go_sem]
  exact ⟨rfl, by go_grown⟩

theorem stP_wf {ds : List Int} {wn : Int} (hr : RkOk ds wn) {x : Int × Int} (h : StP ds wn x) : WfP x := by
  have h1 := h.1
  have h2 := stOk_in hr h
  exact wfP (by omega) (by omega)
theorem rs_info : (Try.prog.info? 28).map (fun i => (i.zero, i.size, i.bytes)) = some (some (.agg #[.int .i64 0, .int .i64 0]), 2, 16) := by kernel_rfl
/-- A state goes to the end of the set, where it is not in it. -/
def adS (S : List (Int × Int)) (y : Int × Int) : List (Int × Int) := if y ∈ S then S else S ++ [y]
def adL (S L : List (Int × Int)) (c : Nat) : List (Int × Int) := (L.take c).foldl adS S
/-- Closed up to place i, and sound. -/
structure Bfs (ds : List Int) (wn : Int) (x0 : Int × Int) (S : List (Int × Int)) (i : Nat) : Prop where
  le : i ≤ S.length
  nodup : S.Nodup
  valid : ∀ y ∈ S, StP ds wn y
  start : x0 ∈ S
  closed : ∀ j, j < i → tkP ds wn (pi S j) ∈ S ∧ bkP (pi S j) ∈ S

theorem Bfs.begin {ds : List Int} {wn : Int} {x0 : Int × Int} (h : StP ds wn x0) : Bfs ds wn x0 [x0] 0 :=
  ⟨Nat.zero_le _, by simp, fun y hy => by rw [List.mem_singleton.1 hy]; exact h, by simp, fun j hj => absurd hj (Nat.not_lt_zero _)⟩

theorem adL_step (S L : List (Int × Int)) {c : Nat} (hc : c < L.length) : adL S L (c + 1) = adS (adL S L c) (pi L c) := by
  rw [adL, adL, List.take_succ_eq_append_getElem hc, List.foldl_append, pi_eq hc]; rfl
theorem adL_in {S L : List (Int × Int)} {c : Nat} (hc : c < L.length) (h : pi L c ∈ adL S L c) : adL S L (c + 1) = adL S L c := by rw [adL_step S L hc, adS, if_pos h]
theorem adL_out {S L : List (Int × Int)} {c : Nat} (hc : c < L.length) (h : ¬ pi L c ∈ adL S L c) : adL S L (c + 1) = adL S L c ++ [pi L c] := by rw [adL_step S L hc, adS, if_neg h]
theorem adL_pre (S L : List (Int × Int)) (c : Nat) : ∃ T, adL S L c = S ++ T := by
  have key : ∀ (M : List (Int × Int)) (S : List (Int × Int)), ∃ T, M.foldl adS S = S ++ T := fun M => by
    induction M with
    | nil => intro S; exact ⟨[], by simp⟩
    | cons y M ih =>
      intro S
      rw [List.foldl_cons]
      obtain ⟨T, hT⟩ := ih (adS S y)
      rw [hT]
      unfold adS
      split
      · exact ⟨T, rfl⟩
      · exact ⟨y :: T, by simp⟩
  exact key _ S
theorem adL_nodup {S : List (Int × Int)} (hS : S.Nodup) (L : List (Int × Int)) (c : Nat) : (adL S L c).Nodup := by
  have key : ∀ (M : List (Int × Int)) (S : List (Int × Int)), S.Nodup → (M.foldl adS S).Nodup := fun M => by
    induction M with
    | nil => intro S h; exact h
    | cons y M ih =>
      intro S h
      rw [List.foldl_cons]
      refine ih _ ?_
      unfold adS
      split
      · exact h
      · rename_i hn
        rw [List.nodup_append]
        exact ⟨h, by simp, fun a ha b hb e => hn (by rw [← List.mem_singleton.1 hb, ← e]; exact ha)⟩
  exact key _ S hS
theorem adL_mem {S L : List (Int × Int)} {c : Nat} {y : Int × Int} : y ∈ adL S L c ↔ y ∈ S ∨ y ∈ L.take c := by
  have key : ∀ (M : List (Int × Int)) (S : List (Int × Int)), y ∈ M.foldl adS S ↔ y ∈ S ∨ y ∈ M := fun M => by
    induction M with
    | nil => intro S; simp
    | cons z M ih =>
      intro S
      rw [List.foldl_cons, ih]
      unfold adS
      split
      · rename_i hz
        rw [List.mem_cons]
        constructor
        · rintro (h | h)
          · exact .inl h
          · exact .inr (.inr h)
        · rintro (h | rfl | h)
          · exact .inl h
          · exact .inl hz
          · exact .inr h
      · rw [List.mem_append, List.mem_singleton, List.mem_cons, or_assoc]
  exact key _ S
/-- A round of the search. -/
theorem Bfs.next {ds : List Int} {wn : Int} {x0 : Int × Int} {S : List (Int × Int)} {i : Nat} (h : Bfs ds wn x0 S i) (hr : RkOk ds wn) (hi : i < S.length) : Bfs ds wn x0 (adL S [tkP ds wn (pi S i), bkP (pi S i)] 2) (i + 1) := by
  obtain ⟨T, hT⟩ := adL_pre S [tkP ds wn (pi S i), bkP (pi S i)] 2
  have hm : ∀ y, y ∈ S → y ∈ adL S [tkP ds wn (pi S i), bkP (pi S i)] 2 := fun y hy => adL_mem.2 (.inl hy)
  refine ⟨by rw [hT, List.length_append]; omega, adL_nodup h.nodup _ _, fun y hy => ?_, hm _ h.start, fun j hj => ?_⟩
  · rcases adL_mem.1 hy with hy | hy
    · exact h.valid y hy
    · have hx := h.valid _ (pi_mem hi)
      have : y = tkP ds wn (pi S i) ∨ y = bkP (pi S i) := by simpa using hy
      rcases this with rfl | rfl
      · exact hx.tick hr
      · exact StP.back ds wn _
  · have e : pi (adL S [tkP ds wn (pi S i), bkP (pi S i)] 2) j = pi S j := by rw [hT]; exact pi_append_left (by omega)
    rw [e]
    rcases Nat.lt_or_ge j i with h1 | h1
    · exact ⟨hm _ (h.closed j h1).1, hm _ (h.closed j h1).2⟩
    · obtain rfl : j = i := by omega
      exact ⟨adL_mem.2 (.inr (by simp)), adL_mem.2 (.inr (by simp))⟩
theorem Bfs.all {ds : List Int} {wn : Int} {x0 : Int × Int} {S : List (Int × Int)} (h : Bfs ds wn x0 S S.length) (hr : RkOk ds wn) : (S.length : Int) = 720 + 12 * wn := by
  refine count_all hr h.nodup h.valid h.start (fun y hy => ?_) (fun y hy => ?_)
  · obtain ⟨j, hj, rfl⟩ := mem_pi hy
    exact (h.closed j hj).1
  · obtain ⟨j, hj, rfl⟩ := mem_pi hy
    exact (h.closed j hj).2

set_option maxHeartbeats 8000000 in
theorem RackStates_i0 (v : Value) (ds : List Int) (wn m rd : Int) (w : World) (hv : Sl w v ds) (hs : stB ds wn m rd = true) :
    Calls Try.prog 7 #[.agg #[v, .int .i64 wn], .agg #[.int .i64 m, .int .i64 rd]] w fun e w' => e = .returned (.tuple #[.int .i64 (720 + 12 * wn), .int .i64 0]) ∧ Below w.heap.size w w' := by
  have H1 := Lib.hid (fun w' (hb : Below w.heap.size w w') => ValidRackState_i v ds wn m rd w' (hv.below hb))
  obtain ⟨hr, hst⟩ := stB_iff.1 hs
  have H2 := Lib.hid (fun (x : Int × Int) w' (hb : Below w.heap.size w w') (hx : StP ds wn x) => tick_any v ds wn x.1 x.2 w' (hv.below hb) hr hx.1.1 hx.1.2)
  have HB := Lib.hid hs
  have HR := Lib.hid hr
  have HX := Lib.hid (show StP ds wn (m, rd) from hst)
  clear hv hs hr hst
  go_enter Try.func7, Try.ntmps7
  obtain ⟨k0, k1⟩ := bx2 w 26 28 #[v, .int .i64 wn] #[.int .i64 m, .int .i64 rd]
  have HK0 := Lib.hid k0
  have HK1 := Lib.hid k1
  clear k0 k1
  go_wp2_with fail
  refine (H1.out _ (by go_grown)).mono ?_
  rintro e w1 ⟨rfl, hb1⟩
  rw [HB.out]
  have J0 := Lib.hid (HK0.out.below hb1)
  have J1 := Lib.hid (HK1.out.below hb1)
  have q2 := J1.out.cell 0 rfl
  have q3 := J1.out.cell 1 rfl
  have z1 := J1.out.lt
  have B1 : Below w.heap.size w w1 := Below.trans (by go_grown) (hb1.mono (by simp; omega))
  clear hb1 HK0 HK1
  have hmm := @run_makeMap Try.prog
  have HW0 := Lib.hid (stP_wf HR.out HX.out)
  go_wp2_with (first
    | (refine wpList_see rfl _ _ _ (.inr rfl) w1.heap.size [] rfl (Seen.new w1) (by decide) (m, rd) rfl rfl HW0.out ?_; intro w2 hs2 hg2; have b0 := (J0.out.alloc (.map #[] 0)).grown hg2 (by simp; omega); have b1 := (J1.out.alloc (.map #[] 0)).grown hg2 (by simp; omega); have p2 := b1.cell 0 rfl; have p3 := b1.cell 1 rfl; have HS2 := Lib.hid hs2; have P0 := Lib.hid b0; have P1 := Lib.hid b1; have zz := hg2.size; have HB2 := Lib.hid ((B1.alloc B1.size (.map #[] 0)).grown hg2 (by simp; omega) (fun k hk => by cases hk; exact B1.size)); clear hs2 hg2 b0 b1))
  have HB1 := Lib.hid B1
  have HZ1 := Lib.hid z1
  clear q2 q3 z1 B1 J0 J1
  go_loopg [7] 1441 (fun gk x7 wr => ∃ S i, gk = 1441 - i ∧ Hid (Bfs ds wn (m, rd) S i) ∧ Que wr (w1.heap.size + 1) 28 x7 (S.drop i) ∧ Seen wr w1.heap.size S ∧ Blk wr w.heap.size 26 #[v, .int .i64 wn] ∧ Below w.heap.size w wr)
  case atStart =>
    refine ⟨[(m, rd)], 0, rfl, Lib.hid (Bfs.begin HX.out), ?_, ?_, ?_, ?_⟩
    · exact Que.of_own (ps := [(m, rd)]) (World.ownsRow_lit w2 #[.int .i64 m, .int .i64 rd] 1 (by simpa using zz) (by decide) rfl) (Nat.le_refl 1)
    · exact Seen.alloc HS2.out _
    · exact P0.out.alloc _
    · exact (HB2.out).alloc (by have := HB2.out.size; omega) _
  case round =>
    obtain ⟨S, i, rfl, hbf, hq, hse, b0, hB⟩ := hrel
    by_cases hi : i < S.length
    · obtain ⟨x, hx⟩ : ∃ x, x = pi S i := ⟨_, rfl⟩
      have hcons : S.drop i = x :: S.drop (i + 1) := by rw [hx, pi_eq hi]; exact List.drop_eq_getElem_cons hi
      have hxv : StP ds wn x := hbf.out.valid x (by rw [hx]; exact pi_mem hi)
      rw [hcons] at hq
      obtain ⟨g, off, cap, rfl, hg1, hg2, hc1, hc2, HC⟩ := hq.open_
      have c0 : wr.cell? ⟨g, off, none⟩ = some (.int .i64 x.1) := (HC.out 0 (by simp)).1
      have c1 : wr.cell? ⟨g, off + 1, none⟩ = some (.int .i64 x.2) := (HC.out 0 (by simp)).2
      have q0 := b0.cell 0 rfl
      have q1 := b0.cell 1 rfl
      have z0 := b0.lt
      have HQ := Lib.hid hq
      have HSe := Lib.hid hse
      have P0 := Lib.hid b0
      have HBw := Lib.hid hB
      have HXV := Lib.hid hxv
      have i1 : (0 : Int) < ((x :: S.drop (i + 1)).length : Int) := by rw [List.length_cons]; omega
      obtain ⟨n, hn⟩ : ∃ n, n = (x :: S.drop (i + 1)).length := ⟨_, rfl⟩
      rw [← hn] at i1
      rw [← hn] at hc1 ⊢
      have HL := Lib.hid hn
      have HCons := Lib.hid hcons
      have HXi := Lib.hid hx
      clear hq hse b0 hxv hx hcons hn HC
      have HSr := Lib.hid (fun (w' : World) (hw : Below wr.heap.size wr w') => (⟨(P0.out.below hw).cell 0 rfl, (P0.out.below hw).cell 1 rfl, (hw.cell (p := ⟨g, off, none⟩) hg2).trans c0, (hw.cell (p := ⟨g, off + 1, none⟩) hg2).trans c1⟩ : w'.cell? ⟨w.heap.size, 0, none⟩ = some v ∧ w'.cell? ⟨w.heap.size, 1, none⟩ = some (.int .i64 wn) ∧ w'.cell? ⟨g, off, none⟩ = some (.int .i64 x.1) ∧ w'.cell? ⟨g, off + 1, none⟩ = some (.int .i64 x.2)))
      have z3 : w.heap.size < wr.heap.size := z0
      have nn : ¬ (n : Int) ≤ 0 := by omega
      have nn2 : 0 < n := by omega
      go_wp2_with fail
      go_cut [8, 9] (fun a8 a9 wq => ∃ g8 : Nat, a8 = .pointer (some ⟨g8, 0, none⟩) ∧ a9 = .int .i64 (tkB x.1 x.2) ∧ wr.heap.size ≤ g8 ∧ g8 < wq.heap.size ∧ wq.cell? ⟨g8, 0, none⟩ = some (.int .i64 (tkP ds wn x).1) ∧ wq.cell? ⟨g8, 1, none⟩ = some (.int .i64 (tkP ds wn x).2) ∧ Below wr.heap.size wr wq)
      case first =>
        go_region_held3 (fun w' => w'.cell? ⟨w.heap.size, 0, none⟩ = some v ∧ w'.cell? ⟨w.heap.size, 1, none⟩ = some (.int .i64 wn) ∧ w'.cell? ⟨g, off, none⟩ = some (.int .i64 x.1) ∧ w'.cell? ⟨g, off + 1, none⟩ = some (.int .i64 x.2)) (first | assumption | (refine HSr.out _ ?_; go_grown; done) | ((try dsimp only); (repeat' apply And.intro) <;> (first | assumption | (simp [go_sem, *]; done))) | go_keep)
          (first
            | (go_at_call 18; refine (H2.out x _ (grown_again HBw.out (by first | exact Below.refl _ _ | go_grown)) HXV.out).mono ?_; rintro e w3 ⟨rfl, hb2⟩; have B3 : Below wr.heap.size wr w3 := Below.trans (by first | exact Below.refl _ _ | go_grown) (hb2.mono (by first | exact Nat.le_refl _ | (simp [go_sem]; done) | (simp [go_sem]; omega))); have S3 := HSr.out w3 B3; have y3 := B3.size; obtain ⟨hc3, hf3⟩ := bcell hb2; (try (have a3 : wr.heap.size < w3.heap.size := Nat.lt_of_lt_of_le (by first | assumption | (simp [go_sem]; done) | (simp only [go_sem]; omega) | (simp [go_sem]; omega)) hb2.size)); clear hb2))
        all_goals (go_wp2_with fail; go_meet)
        all_goals refine ⟨_, rfl, rfl, ?_, ?_, ?_, ?_, ?_⟩
        all_goals first
          | (with_reducible exact Nat.le_refl _) | (with_reducible assumption)
          | (go_grown; done)
          | (simp [go_sem, tkP, *]; done)
          | (simp; omega)
      case rest =>
        obtain ⟨w3, rfl⟩ : ∃ y : World, y = wc := ⟨_, rfl⟩
        obtain ⟨g8, rfl, rfl, hg, hgl, t0, t1, hb2⟩ := hcut
        obtain ⟨-, -, c0', c1'⟩ := HSr.out _ hb2
        have HB3 := Lib.hid hb2
        have HSq := Lib.hid (fun (w' : World) (hw : Below w3.heap.size w3 w') => (⟨(hw.cell (p := ⟨g8, 0, none⟩) hgl).trans t0, (hw.cell (p := ⟨g8, 1, none⟩) hgl).trans t1, (hw.cell (p := ⟨g, off, none⟩) (Nat.lt_of_lt_of_le hg2 hb2.size)).trans c0', (hw.cell (p := ⟨g, off + 1, none⟩) (Nat.lt_of_lt_of_le hg2 hb2.size)).trans c1'⟩ : w'.cell? ⟨g8, 0, none⟩ = some (.int .i64 (tkP ds wn x).1) ∧ w'.cell? ⟨g8, 1, none⟩ = some (.int .i64 (tkP ds wn x).2) ∧ w'.cell? ⟨g, off, none⟩ = some (.int .i64 x.1) ∧ w'.cell? ⟨g, off + 1, none⟩ = some (.int .i64 x.2)))
        clear c0 c1 q0 q1 HSr hb2
        go_wp2_with fail
        go_cut [39, 40, 41] (fun a39 a40 a41 wq => ∃ g2 : Nat, a39 = .slice (some ⟨g2, 0, none⟩) 2 2 ∧ a40 = .int .i64 2 ∧ a41 = .int .i64 0 ∧ w3.heap.size ≤ g2 ∧ g2 < wq.heap.size ∧ wq.cell? ⟨g2, 0, none⟩ = some (.int .i64 (tkP ds wn x).1) ∧ wq.cell? ⟨g2, 1, none⟩ = some (.int .i64 (tkP ds wn x).2) ∧ wq.cell? ⟨g2, 2, none⟩ = some (.int .i64 (bkP x).1) ∧ wq.cell? ⟨g2, 3, none⟩ = some (.int .i64 (bkP x).2) ∧ Below w3.heap.size w3 wq)
        case first =>
          go_region_held3 (fun w' => w'.cell? ⟨g8, 0, none⟩ = some (.int .i64 (tkP ds wn x).1) ∧ w'.cell? ⟨g8, 1, none⟩ = some (.int .i64 (tkP ds wn x).2) ∧ w'.cell? ⟨g, off, none⟩ = some (.int .i64 x.1) ∧ w'.cell? ⟨g, off + 1, none⟩ = some (.int .i64 x.2)) (first | assumption | (refine HSq.out _ ?_; go_grown; done) | ((try dsimp only); (repeat' apply And.intro) <;> (first | assumption | (simp [go_sem, *]; done))) | go_keep)
            (first
              | (go_at_call 19; refine (backP_any x.1 x.2 _ HXV.out.1.1 HXV.out.1.2).mono ?_; rintro e w4 ⟨rfl, hb4⟩; have B4 : Below w3.heap.size w3 w4 := Below.trans (by first | exact Below.refl _ _ | go_grown) (hb4.mono (by first | exact Nat.le_refl _ | (simp [go_sem]; done) | (simp [go_sem]; omega))); have S4 := HSq.out w4 B4; have y4 := B4.size; obtain ⟨hc4, hf4⟩ := bcell hb4; (try (have a4 : w3.heap.size < w4.heap.size := Nat.lt_of_lt_of_le (by first | assumption | (simp [go_sem]; done) | (simp only [go_sem]; omega) | (simp [go_sem]; omega)) hb4.size)); clear hb4))
          all_goals (go_wp2_with fail; go_meet)
          all_goals refine ⟨_, rfl, rfl, rfl, ?_, ?_, ?_, ?_, ?_, ?_, ?_⟩
          all_goals first
            | (with_reducible exact Nat.le_refl _) | (with_reducible assumption)
            | (go_grown; done)
            | (simp [go_sem, *]; done)
            | (simp; omega)
        case rest =>
          obtain ⟨w4, rfl⟩ : ∃ y : World, y = wc := ⟨_, rfl⟩
          obtain ⟨g2, rfl, rfl, rfl, hg4, hgl4, d0, d1, d2, d3, hb4⟩ := hcut
          have B34 := HB3.out.trans (hb4.mono HB3.out.size)
          have hq4 := HQ.out.below B34
          have hse4 := HSe.out.below B34
          have b4 := P0.out.below B34
          have B4 := HBw.out.trans (B34.mono HBw.out.size)
          have zg : wr.heap.size ≤ w3.heap.size := HB3.out.size
          have hmap : w1.heap.size < wr.heap.size := HSe.out.lt
          obtain ⟨L, hL⟩ : ∃ L, L = [tkP ds wn x, bkP x] := ⟨_, rfl⟩
          have HLL := Lib.hid hL
          have HNX := Lib.hid (show ∀ c, c ≤ 2 → (adL S L c).Nodup ∧ (∀ y ∈ adL S L c, StP ds wn y) ∧ ∃ T, adL S L c = S ++ T from fun c _ => ⟨adL_nodup hbf.out.nodup _ _, fun y hy => (adL_mem.1 hy).elim (fun h => hbf.out.valid y h) (fun h => by
            have h2 := List.mem_of_mem_take h
            rw [hL] at h2
            rcases (by simpa using h2 : y = tkP ds wn x ∨ y = bkP x) with rfl | rfl
            · exact HXV.out.tick HR.out
            · exact StP.back ds wn _), adL_pre _ _ _⟩)
          clear hL HSq B34 hb4 HB3 HBw P0 HQ HSe
          go_wp2_with fail
          go_loopw [7, 41] (fun x7 a wi => ∃ c : Nat, c ≤ 2 ∧ a = .int .i64 (c : Int) ∧ Que wi (w1.heap.size + 1) 28 x7 ((adL S L c).drop i) ∧ x7.ownBlock ≠ some g2 ∧ Seen wi w1.heap.size (adL S L c) ∧ wi.cell? ⟨g2, 0, none⟩ = some (.int .i64 (tkP ds wn x).1) ∧ wi.cell? ⟨g2, 1, none⟩ = some (.int .i64 (tkP ds wn x).2) ∧ wi.cell? ⟨g2, 2, none⟩ = some (.int .i64 (bkP x).1) ∧ wi.cell? ⟨g2, 3, none⟩ = some (.int .i64 (bkP x).2) ∧ g2 < wi.heap.size ∧ Blk wi w.heap.size 26 #[v, .int .i64 wn] ∧ Below w.heap.size w wi) (fun _ a _ => 2 - (intOf a).toNat)
          case atStart =>
            refine ⟨0, by omega, by go_num, ?_, ?_, hse4, d0, d1, d2, d3, hgl4, b4, B4⟩
            · show Que w4 _ _ _ (S.drop i)
              rw [HCons.out, HL.out]; exact hq4
            · simp [Value.ownBlock]; omega
          case round =>
            obtain ⟨c, hc, rfl, hq, hne, hse, d0, d1, d2, d3, hgl, b0, hB⟩ := hrel
            obtain ⟨hnd, hval, T, hT⟩ := HNX.out c hc
            have hwf : ∀ y ∈ adL S L c, WfP y := fun y hy => stP_wf HR.out (hval y hy)
            have hlen : (adL S L c).length ≤ 1440 := count_le HR.out hnd hval
            have HQ := Lib.hid hq
            have HSe := Lib.hid hse
            have P0 := Lib.hid b0
            have HBw := Lib.hid hB
            have HNE := Lib.hid hne
            have hz := hse.lt
            have hz0 := b0.lt
            have HT := Lib.hid hT
            clear hq hse b0 hne hnd hval hT
            by_cases hc2 : c < 2
            · have hcc : c = 0 ∨ c = 1 := by omega
              rcases hcc with rfl | rfl
              · have hy : pi L 0 = (tkP ds wn x) := by rw [HLL.out]; rfl
                have hyv : StP ds wn (tkP ds wn x) := HXV.out.tick HR.out
                have hyw := stP_wf HR.out hyv
                have hlk := (HSe.out.alloc (.cells #[.int .i64 (tkP ds wn x).1, .int .i64 (tkP ds wn x).2] 28)).ask hwf hyw
                by_cases hin : (tkP ds wn x) ∈ adL S L 0
                · rw [decide_eq_true hin] at hlk
                  have HA := Lib.hid (adL_in (S := S) (L := L) (c := 0) (by rw [HLL.out]; exact Nat.zero_lt_succ _) (by rw [hy]; exact hin))
                  clear hin hy hyv hyw hwf
                  go_wp2_with fail
                  refine ⟨⟨1, by omega, rfl, ?_, HNE.out, ?_, ?_, ?_, ?_, ?_, ?_, P0.out.alloc _, by go_grown⟩, by simp [intOf]⟩
                  · rw [HA.out]; exact HQ.out.alloc _
                  · rw [HA.out]; exact HSe.out.alloc _
                  all_goals (simp [go_sem, *]; done)
                · rw [decide_eq_false hin] at hlk
                  have HA := Lib.hid (adL_out (S := S) (L := L) (c := 0) (by rw [HLL.out]; exact Nat.zero_lt_succ _) (by rw [hy]; exact hin))
                  have HYW := Lib.hid hyw
                  have HY := Lib.hid hy
                  have HIL := Lib.hid (show i ≤ (adL S L 0).length by rw [HT.out, List.length_append]; omega)
                  have HG2 := Lib.hid hgl
                  have HBlt := Lib.hid hmap
                  obtain ⟨i0, hinf, hz0, hz1, hz2⟩ := info_parts rs_info
                  have HI0 := Lib.hid hinf
                  have HI1 := Lib.hid hz0
                  have HI2 := Lib.hid hz1
                  have HI3 := Lib.hid hz2
                  clear hin hy hyv hyw hwf hinf hz0 hz1 hz2
                  go_wp2_with (first
                    | (at_mapUpdate; refine wpList_see rfl _ _ _ (.inl rfl) w1.heap.size (adL S L 0) rfl (HSe.out.alloc _) (by omega) (tkP ds wn x) rfl rfl HYW.out ?_; intro w5 hs5 hg5; have HQ5 := Lib.hid ((HQ.out.alloc (.cells #[.int .i64 (tkP ds wn x).1, .int .i64 (tkP ds wn x).2] 28)).kept hg5 (fun b hb e => by have := (HQ.out.lt b hb).1; cases e; omega)); have e0 : w5.cell? ⟨wr.heap.size, 0, none⟩ = _ := hg5.cell ((Blk.new wr 28 #[.int .i64 (tkP ds wn x).1, .int .i64 (tkP ds wn x).2]).cell 0 rfl) (by simp; omega); have e1 : w5.cell? ⟨wr.heap.size, 1, none⟩ = _ := hg5.cell ((Blk.new wr 28 #[.int .i64 (tkP ds wn x).1, .int .i64 (tkP ds wn x).2]).cell 1 rfl) (by simp; omega); have HS5 := Lib.hid hs5; have HG5 := Lib.hid hg5; have z5 := hg5.size; simp only [World.size_alloc] at z5; clear hs5 hg5)
                    | (at_builtin; refine wpList_appq rfl _ _ _ rfl _ i0 _ 16 Try.underlying45 HI0.out HI1.out HI2.out HI3.out rfl (by decide) (w1.heap.size + 1) u7 _ rfl (HQ5.out.alloc _) (tkP ds wn x) ⟨w5.heap.size, 0, none⟩ rfl ((Blk.new w5 28 #[.int .i64 (tkP ds wn x).1, .int .i64 (tkP ds wn x).2]).cell 0 rfl) ((Blk.new w5 28 #[.int .i64 (tkP ds wn x).1, .int .i64 (tkP ds wn x).2]).cell 1 rfl) (by simp; omega) (by simp; omega) ?_; intro v6 w6 hq6 hb6 hg6 hk6; have HQ6 := Lib.hid hq6; have HB6 := Lib.hid hb6; have HG6 := Lib.hid hg6; have HK6 := Lib.hid hk6; clear hq6 hb6 hg6 hk6))
                  have zw := HZ1.out
                  have nb : ∀ k, u7.ownBlock = some k → w1.heap.size + 1 ≤ k ∧ k < wr.heap.size := fun k hk => HQ.out.lt k hk
                  have hA := HA.out
                  rw [HY.out] at hA
                  have Ba : Below wr.heap.size wr (wr.alloc (.cells #[.int .i64 (tkP ds wn x).1, .int .i64 (tkP ds wn x).2] 28)) := (Below.refl _ _).alloc (Nat.le_refl _) _
                  have Bb : Below w5.heap.size w5 (w5.alloc (.cells #[.int .i64 (tkP ds wn x).1, .int .i64 (tkP ds wn x).2] 28)) := (Below.refl _ _).alloc (Nat.le_refl _) _
                  have zgm : ¬ g2 = w1.heap.size := by have := HBlt.out; omega
                  have ch : ∀ o u, wr.cell? ⟨g2, o, none⟩ = some u → w6.cell? ⟨g2, o, none⟩ = some u := fun o u h => by
                    have h2 := HG5.out.cell ((Ba.cell (p := ⟨g2, o, none⟩) hgl).trans h) (by simpa using zgm)
                    exact HG6.out.cell ((Bb.cell (p := ⟨g2, o, none⟩) (by show g2 < w5.heap.size; omega)).trans h2) (fun e => HNE.out e.symm)
                  have z6 := HG6.out.size
                  simp only [World.size_alloc] at z6
                  refine ⟨⟨1, by omega, rfl, ?_, ?_, ?_, ch _ _ d0, ch _ _ d1, ch _ _ d2, ch _ _ d3, by omega, ?_, ?_⟩, by simp [intOf]⟩
                  · rw [hA, List.drop_append_of_le_length HIL.out]; exact HQ6.out
                  · intro e
                    rcases HK6.out _ e with h | h
                    · exact HNE.out h
                    · simp only [World.size_alloc] at h; omega
                  · rw [hA]
                    exact (HS5.out.alloc _).kept HG6.out (fun e => by have := nb _ e.symm; omega)
                  · exact (((P0.out.alloc _).grown HG5.out (by simp; omega)).alloc _).belowB HB6.out (by omega)
                  · have B5 : Below w.heap.size w w5 := (HBw.out.alloc HBw.out.size _).grown HG5.out (by have := HBw.out.size; simp; omega) (fun k hk => by cases hk; omega)
                    exact (B5.alloc B5.size _).trans (HB6.out.mono (by omega))
              · have hy : pi L 1 = (bkP x) := by rw [HLL.out]; rfl
                have hyv : StP ds wn (bkP x) := StP.back ds wn _
                have hyw := stP_wf HR.out hyv
                have hlk := (HSe.out.alloc (.cells #[.int .i64 (bkP x).1, .int .i64 (bkP x).2] 28)).ask hwf hyw
                by_cases hin : (bkP x) ∈ adL S L 1
                · rw [decide_eq_true hin] at hlk
                  have HA := Lib.hid (adL_in (S := S) (L := L) (c := 1) (by rw [HLL.out]; exact Nat.lt_succ_self 1) (by rw [hy]; exact hin))
                  clear hin hy hyv hyw hwf
                  go_wp2_with fail
                  refine ⟨⟨2, by omega, rfl, ?_, HNE.out, ?_, ?_, ?_, ?_, ?_, ?_, P0.out.alloc _, by go_grown⟩, by simp [intOf]⟩
                  · rw [HA.out]; exact HQ.out.alloc _
                  · rw [HA.out]; exact HSe.out.alloc _
                  all_goals (simp [go_sem, *]; done)
                · rw [decide_eq_false hin] at hlk
                  have HA := Lib.hid (adL_out (S := S) (L := L) (c := 1) (by rw [HLL.out]; exact Nat.lt_succ_self 1) (by rw [hy]; exact hin))
                  have HYW := Lib.hid hyw
                  have HY := Lib.hid hy
                  have HIL := Lib.hid (show i ≤ (adL S L 1).length by rw [HT.out, List.length_append]; omega)
                  have HG2 := Lib.hid hgl
                  have HBlt := Lib.hid hmap
                  obtain ⟨i0, hinf, hz0, hz1, hz2⟩ := info_parts rs_info
                  have HI0 := Lib.hid hinf
                  have HI1 := Lib.hid hz0
                  have HI2 := Lib.hid hz1
                  have HI3 := Lib.hid hz2
                  clear hin hy hyv hyw hwf hinf hz0 hz1 hz2
                  go_wp2_with (first
                    | (at_mapUpdate; refine wpList_see rfl _ _ _ (.inl rfl) w1.heap.size (adL S L 1) rfl (HSe.out.alloc _) (by omega) (bkP x) rfl rfl HYW.out ?_; intro w5 hs5 hg5; have HQ5 := Lib.hid ((HQ.out.alloc (.cells #[.int .i64 (bkP x).1, .int .i64 (bkP x).2] 28)).kept hg5 (fun b hb e => by have := (HQ.out.lt b hb).1; cases e; omega)); have e0 : w5.cell? ⟨wr.heap.size, 0, none⟩ = _ := hg5.cell ((Blk.new wr 28 #[.int .i64 (bkP x).1, .int .i64 (bkP x).2]).cell 0 rfl) (by simp; omega); have e1 : w5.cell? ⟨wr.heap.size, 1, none⟩ = _ := hg5.cell ((Blk.new wr 28 #[.int .i64 (bkP x).1, .int .i64 (bkP x).2]).cell 1 rfl) (by simp; omega); have HS5 := Lib.hid hs5; have HG5 := Lib.hid hg5; have z5 := hg5.size; simp only [World.size_alloc] at z5; clear hs5 hg5)
                    | (at_builtin; refine wpList_appq rfl _ _ _ rfl _ i0 _ 16 Try.underlying45 HI0.out HI1.out HI2.out HI3.out rfl (by decide) (w1.heap.size + 1) u7 _ rfl (HQ5.out.alloc _) (bkP x) ⟨w5.heap.size, 0, none⟩ rfl ((Blk.new w5 28 #[.int .i64 (bkP x).1, .int .i64 (bkP x).2]).cell 0 rfl) ((Blk.new w5 28 #[.int .i64 (bkP x).1, .int .i64 (bkP x).2]).cell 1 rfl) (by simp; omega) (by simp; omega) ?_; intro v6 w6 hq6 hb6 hg6 hk6; have HQ6 := Lib.hid hq6; have HB6 := Lib.hid hb6; have HG6 := Lib.hid hg6; have HK6 := Lib.hid hk6; clear hq6 hb6 hg6 hk6))
                  have zw := HZ1.out
                  have nb : ∀ k, u7.ownBlock = some k → w1.heap.size + 1 ≤ k ∧ k < wr.heap.size := fun k hk => HQ.out.lt k hk
                  have hA := HA.out
                  rw [HY.out] at hA
                  have Ba : Below wr.heap.size wr (wr.alloc (.cells #[.int .i64 (bkP x).1, .int .i64 (bkP x).2] 28)) := (Below.refl _ _).alloc (Nat.le_refl _) _
                  have Bb : Below w5.heap.size w5 (w5.alloc (.cells #[.int .i64 (bkP x).1, .int .i64 (bkP x).2] 28)) := (Below.refl _ _).alloc (Nat.le_refl _) _
                  have zgm : ¬ g2 = w1.heap.size := by have := HBlt.out; omega
                  have ch : ∀ o u, wr.cell? ⟨g2, o, none⟩ = some u → w6.cell? ⟨g2, o, none⟩ = some u := fun o u h => by
                    have h2 := HG5.out.cell ((Ba.cell (p := ⟨g2, o, none⟩) hgl).trans h) (by simpa using zgm)
                    exact HG6.out.cell ((Bb.cell (p := ⟨g2, o, none⟩) (by show g2 < w5.heap.size; omega)).trans h2) (fun e => HNE.out e.symm)
                  have z6 := HG6.out.size
                  simp only [World.size_alloc] at z6
                  refine ⟨⟨2, by omega, rfl, ?_, ?_, ?_, ch _ _ d0, ch _ _ d1, ch _ _ d2, ch _ _ d3, by omega, ?_, ?_⟩, by simp [intOf]⟩
                  · rw [hA, List.drop_append_of_le_length HIL.out]; exact HQ6.out
                  · intro e
                    rcases HK6.out _ e with h | h
                    · exact HNE.out h
                    · simp only [World.size_alloc] at h; omega
                  · rw [hA]
                    exact (HS5.out.alloc _).kept HG6.out (fun e => by have := nb _ e.symm; omega)
                  · exact (((P0.out.alloc _).grown HG5.out (by simp; omega)).alloc _).belowB HB6.out (by omega)
                  · have B5 : Below w.heap.size w w5 := (HBw.out.alloc HBw.out.size _).grown HG5.out (by have := HBw.out.size; simp; omega) (fun k hk => by cases hk; omega)
                    exact (B5.alloc B5.size _).trans (HB6.out.mono (by omega))
            · obtain rfl : c = 2 := by omega
              have hil : i < (adL S L 2).length := by rw [HT.out, List.length_append]; omega
              obtain ⟨y, hyy⟩ : ∃ y, y = pi (adL S L 2) i := ⟨_, rfl⟩
              have hc3 : (adL S L 2).drop i = y :: (adL S L 2).drop (i + 1) := by rw [hyy, pi_eq hil]; exact List.drop_eq_getElem_cons hil
              have hq := HQ.out
              rw [hc3] at hq
              obtain ⟨g5, off5, cap5, rfl, _, _, hca, hcb, _⟩ := hq.open_
              obtain ⟨n5, hn5⟩ : ∃ n, n = (y :: (adL S L 2).drop (i + 1)).length := ⟨_, rfl⟩
              rw [← hn5] at hq hca ⊢
              have HP := Lib.hid hq
              have hn6 : 1 ≤ n5 := by rw [hn5, List.length_cons]; omega
              have hi5 : (1 : Int) ≤ (n5 : Int) := by omega
              have hi6 : (n5 : Int) ≤ (cap5 : Int) := by omega
              have hi7 : (1 : Int) ≤ (cap5 : Int) := by omega
              have HS2 := Lib.hid (show 1441 - (i + 1) < 1441 - i from by have := hbf.out.le; have := count_le HR.out hbf.out.nodup hbf.out.valid; omega)
              have HBf := Lib.hid (show Bfs ds wn (m, rd) (adL S L 2) (i + 1) from by
                have := hbf.out.next HR.out hi
                rw [HLL.out, HXi.out]; exact this)
              clear hq hn5 hc3 hyy HQ
              by_cases hcap : cap5 = 1
              · subst hcap
                have HP2 := Lib.hid HP.out.pop0
                have h3 := HP.out.pop0
                rw [show n5 - 1 = 0 by omega] at h3
                have HP3 := Lib.hid h3
                clear HP h3
                go_wp2_with fail
                all_goals (
                  go_roundg (1441 - (i + 1))
                  case measure => exact HS2.out
                  case rel => first | exact ⟨_, _, rfl, HBf.out, HP2.out, HSe.out, P0.out, HBw.out⟩ | exact ⟨_, _, rfl, HBf.out, HP3.out, HSe.out, P0.out, HBw.out⟩)
              · have hcap2 : ¬ cap5 - 1 = 0 := by omega
                have HP2 := Lib.hid HP.out.pop
                clear HP
                go_wp2_with fail
                go_roundg (1441 - (i + 1))
                case measure => exact HS2.out
                case rel => exact ⟨_, _, rfl, HBf.out, HP2.out, HSe.out, P0.out, HBw.out⟩
    · obtain rfl : i = S.length := by have := hbf.out.le; omega
      rw [List.drop_length] at hq
      obtain ⟨g, off, cap, rfl, _, _, _, _, _⟩ := hq.open_
      have hall := hbf.out.all HR.out
      have hcn := fun ty => hse.count hbf.out.nodup (fun y hy => stP_wf HR.out (hbf.out.valid y hy)) ty
      have HA := Lib.hid hall
      have e0 : ([] : List (Int × Int)).length = 0 := rfl
      clear hall hq hse b0
      go_wp2_with fail
      refine bodyPost_ret (v := .tuple #[.int .i64 S.length, .int .i64 0]) ?_ rfl ?_
      · simp [results, Try.results7, go_sem]
      exact ⟨by rw [HA.out], hB⟩
end Go.Proofs.Ytdlegcjcmhpbcaa
