/- Racks' states in plain numbers: a set of valid states that holds one of them and is closed under a tick and under a minute back holds all of them, and how many they are. No program in sight. -/
import Derived.Test.YtdlegcjcmhpbcaaRkN
namespace Go.Proofs.Ytdlegcjcmhpbcaa

/-- The state behind a tick, and the state a minute back. -/
def tkP (ds : List Int) (wn : Int) (x : Int × Int) : Int × Int := (tkM x.1, tkR ds wn x.1 x.2)
def bkP (x : Int × Int) : Int × Int := ((x.1 - 1) % 720, 0)
/-- The number of a state among all. -/
def cdP (x : Int × Int) : Nat := 2 * x.1.toNat + (if 0 < x.2 then 1 else 0)
def StP (ds : List Int) (wn : Int) (x : Int × Int) : Prop := StOk ds wn x.1 x.2
theorem StP.tick {ds : List Int} {wn : Int} (hr : RkOk ds wn) {x : Int × Int} (h : StP ds wn x) : StP ds wn (tkP ds wn x) := stOk_tick hr h
theorem StP.back (ds : List Int) (wn : Int) (x : Int × Int) : StP ds wn (bkP x) := ⟨⟨by unfold bkP; dsimp only; omega, by unfold bkP; dsimp only; omega⟩, .inl rfl⟩
theorem cdP_lt {ds : List Int} {wn : Int} {x : Int × Int} (h : StP ds wn x) : cdP x < 1440 := by
  have := h.1
  unfold cdP
  split <;> omega
theorem cdP_inj {ds : List Int} {wn : Int} (hr : RkOk ds wn) {x y : Int × Int} (hx : StP ds wn x) (hy : StP ds wn y) (h : cdP x = cdP y) : x = y := by
  obtain ⟨a, b⟩ := x
  obtain ⟨c, d⟩ := y
  have hx1 : 0 ≤ a ∧ a ≤ 719 := hx.1
  have hy1 : 0 ≤ c ∧ c ≤ 719 := hy.1
  have bx := stOk_in hr hx
  have by_ := stOk_in hr hy
  have hx2 : b = 0 ∨ (60 - wn ≤ a % 60 ∧ b = depthM ds wn a) := hx.2
  have hy2 : d = 0 ∨ (60 - wn ≤ c % 60 ∧ d = depthM ds wn c) := hy.2
  unfold cdP at h
  dsimp only at h bx by_
  have e1 : a = c := by split at h <;> split at h <;> omega
  subst e1
  have dd := depthM_in hr a
  have e2 : b = d := by
    rcases hx2 with h1 | ⟨_, h1⟩ <;> rcases hy2 with h2 | ⟨_, h2⟩
    · rw [h1, h2]
    · rw [if_neg (by omega), if_pos (by omega)] at h; omega
    · rw [if_pos (by omega), if_neg (by omega)] at h; omega
    · rw [h1, h2]
  rw [e2]

/-- The set holds all valid states. -/
theorem all_in {ds : List Int} {wn : Int} (hr : RkOk ds wn) {S : List (Int × Int)} {x0 : Int × Int} (h0 : x0 ∈ S) (ht : ∀ x ∈ S, tkP ds wn x ∈ S) (hb : ∀ x ∈ S, bkP x ∈ S) {x : Int × Int} (hx : StP ds wn x) : x ∈ S := by
  have back : ∀ k : Nat, ((x0.1 - 1 - (k : Int)) % 720, (0 : Int)) ∈ S := fun k => by
    induction k with
    | zero => have := hb _ h0; simpa [bkP] using this
    | succ k ih =>
      have := hb _ ih
      have e : bkP ((x0.1 - 1 - (k : Int)) % 720, 0) = ((x0.1 - 1 - ((k + 1 : Nat) : Int)) % 720, 0) := by
        unfold bkP
        refine Prod.ext ?_ rfl
        show ((x0.1 - 1 - (k : Int)) % 720 - 1) % 720 = (x0.1 - 1 - ((k + 1 : Nat) : Int)) % 720
        omega
      rwa [e] at this
  have zeros : ∀ m : Int, 0 ≤ m → m ≤ 719 → (m, (0 : Int)) ∈ S := fun m h1 h2 => by
    have := back ((x0.1 - 1 - m) % 720).toNat
    have e : (x0.1 - 1 - ((((x0.1 - 1 - m) % 720).toNat : Nat) : Int)) % 720 = m := by omega
    rwa [e] at this
  have g := hr.2.2
  have ready : ∀ j : Nat, ∀ m : Int, 0 ≤ m → m ≤ 719 → m % 60 = 60 - wn + (j : Int) → (m, depthM ds wn m) ∈ S := fun j => by
    induction j with
    | zero =>
      intro m h1 h2 h3
      have hm := ht _ (zeros (m - 1) (by omega) (by omega))
      have e1 : tkM (m - 1) = m := by unfold tkM; omega
      have e2 : tkP ds wn (m - 1, 0) = (m, depthM ds wn m) := by
        refine Prod.ext e1 ?_
        show tkR ds wn (m - 1) 0 = depthM ds wn m
        rw [(tk1 (ds := ds) (wn := wn) (m := m - 1) (rd := 0) (by rw [e1]; omega) (by rw [e1]; omega)).1, e1]
      rwa [e2] at hm
    | succ j ih =>
      intro m h1 h2 h3
      have hm := ht _ (ih (m - 1) (by omega) (by omega) (by omega))
      have e1 : tkM (m - 1) = m := by unfold tkM; omega
      have e3 : snail wn (m - 1) = snail wn m := by unfold snail; omega
      have e2 : tkP ds wn (m - 1, depthM ds wn (m - 1)) = (m, depthM ds wn m) := by
        refine Prod.ext e1 ?_
        show tkR ds wn (m - 1) (depthM ds wn (m - 1)) = depthM ds wn m
        rw [(tk2 (ds := ds) (wn := wn) (m := m - 1) (rd := depthM ds wn (m - 1)) (by rw [e1]; omega) (by rw [e1]; omega)).1, depthM, depthM, e3]
      rwa [e2] at hm
  obtain ⟨a, b⟩ := x
  have h1 : 0 ≤ a ∧ a ≤ 719 := hx.1
  rcases hx.2 with h | ⟨h2, h⟩
  · dsimp only at h; subst h; exact zeros a h1.1 h1.2
  · dsimp only at h h2; subst h
    exact ready (a % 60 - (60 - wn)).toNat a h1.1 h1.2 (by omega)

/-- The numbers of all valid states. -/
def allC (wn : Nat) : List Nat := (List.range 1440).filter fun c => decide (c % 2 = 0) || decide (60 - wn ≤ (c / 2) % 60)
theorem allC_length : ∀ wn, wn < 31 → (allC wn).length = 720 + 12 * wn := by decide +kernel
theorem mem_allC {ds : List Int} {wn : Nat} (hr : RkOk ds wn) {c : Nat} : c ∈ allC wn ↔ ∃ x, StP ds wn x ∧ cdP x = c := by
  have g := hr.2.2
  rw [allC, List.mem_filter, List.mem_range, Bool.or_eq_true, decide_eq_true_eq, decide_eq_true_eq]
  constructor
  · rintro ⟨h1, h2⟩
    rcases Nat.mod_two_eq_zero_or_one c with h | h
    · exact ⟨(((c / 2 : Nat) : Int), 0), ⟨by dsimp only; omega, .inl rfl⟩, by unfold cdP; simp; omega⟩
    · refine ⟨(((c / 2 : Nat) : Int), depthM ds wn ((c / 2 : Nat) : Int)), ⟨by dsimp only; omega, .inr ⟨by dsimp only; omega, rfl⟩⟩, ?_⟩
      have := depthM_in hr ((c / 2 : Nat) : Int)
      unfold cdP
      rw [if_pos (by dsimp only; omega)]
      dsimp only
      omega
  · rintro ⟨x, hx, rfl⟩
    refine ⟨cdP_lt hx, ?_⟩
    have h1 := hx.1
    have hb := stOk_in hr hx
    unfold cdP
    split
    · rename_i hp
      rcases hx.2 with h | ⟨h, _⟩
      · omega
      · right; omega
    · left; omega
/-- How many they are. -/
theorem count_all {ds : List Int} {wn : Int} (hr : RkOk ds wn) {S : List (Int × Int)} (hd : S.Nodup) (hv : ∀ x ∈ S, StP ds wn x) {x0 : Int × Int} (h0 : x0 ∈ S) (ht : ∀ x ∈ S, tkP ds wn x ∈ S) (hb : ∀ x ∈ S, bkP x ∈ S) : (S.length : Int) = 720 + 12 * wn := by
  have g := hr.2.2
  obtain ⟨n, rfl⟩ := Int.eq_ofNat_of_zero_le (show 0 ≤ wn by omega)
  have hn : (S.map cdP).Nodup := by
    rw [List.nodup_iff_pairwise_ne, List.pairwise_map]
    exact (List.nodup_iff_pairwise_ne.1 hd).imp_of_mem fun {a b} ha hb' hne e => hne (cdP_inj hr (hv a ha) (hv b hb') e)
  have hp : (S.map cdP).Perm (allC n) := by
    refine (List.perm_ext_iff_of_nodup hn (List.nodup_range.filter _)).2 fun c => ?_
    show c ∈ _ ↔ c ∈ allC n
    rw [mem_allC hr, List.mem_map]
    constructor
    · rintro ⟨x, hx, rfl⟩; exact ⟨x, hv x hx, rfl⟩
    · rintro ⟨x, hx, rfl⟩; exact ⟨x, all_in hr h0 ht hb hx, rfl⟩
  have h := hp.length_eq
  rw [List.length_map, allC_length n (by omega)] at h
  omega
theorem nodup_le {l : List Nat} {n : Nat} (hn : l.Nodup) (h : ∀ c ∈ l, c < n) : l.length ≤ n := by
  have hp : l.Perm ((List.range n).filter fun c => decide (c ∈ l)) := by
    refine (List.perm_ext_iff_of_nodup hn (List.nodup_range.filter _)).2 fun c => ?_
    rw [List.mem_filter, List.mem_range, decide_eq_true_eq]
    exact ⟨fun hc => ⟨h c hc, hc⟩, fun hc => hc.2⟩
  have h1 := hp.length_eq
  have h2 := List.length_filter_le (fun c => decide (c ∈ l)) (List.range n)
  rw [List.length_range] at h2
  omega
/-- Not more than all. -/
theorem count_le {ds : List Int} {wn : Int} (hr : RkOk ds wn) {S : List (Int × Int)} (hd : S.Nodup) (hv : ∀ x ∈ S, StP ds wn x) : S.length ≤ 1440 := by
  have hn : (S.map cdP).Nodup := by
    rw [List.nodup_iff_pairwise_ne, List.pairwise_map]
    exact (List.nodup_iff_pairwise_ne.1 hd).imp_of_mem fun {a b} ha hb' hne e => hne (cdP_inj hr (hv a ha) (hv b hb') e)
  have := nodup_le hn (n := 1440) fun c hc => by
    obtain ⟨x, hx, rfl⟩ := List.mem_map.1 hc
    exact cdP_lt (hv x hx)
  simpa using this
end Go.Proofs.Ytdlegcjcmhpbcaa
