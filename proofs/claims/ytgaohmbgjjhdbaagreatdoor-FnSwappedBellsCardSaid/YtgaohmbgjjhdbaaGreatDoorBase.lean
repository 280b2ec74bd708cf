/- Words for memory that my walks share: a slice value that reads as a list of numbers, kept over worlds that grow; nothing of the program stands here. -/
import Derived.WalkKit
import Derived.WalkLawsBesides
import Derived.Lib.Hide
import Derived.Deep.Draws
import Derived.Maps.AppendAt
import Derived.Deep.AppendLies
import Derived.BigQuiet
import Derived.Deep.QuietTactic
namespace Go.Proofs.YtgaohmbgjjhdbaaGreatDoor
open Go.RowKit

/-- The cells of a list of int64 numbers. -/
def I64 (xs : List Int) : List Value := xs.map (Value.int .i64)
/-- Element k; 0 behind the end. Behind a plain name, so that no simp turns it. -/
def ix (xs : List Int) (k : Nat) : Int := xs.getD k 0

theorem ix_eq {xs : List Int} {k : Nat} (h : k < xs.length) : ix xs k = xs[k] := by
  simp [ix, List.getD, h]
theorem I64_length (xs : List Int) : (I64 xs).length = xs.length := by simp [I64]
theorem I64_get {xs : List Int} {k : Nat} (h : k < xs.length) : (I64 xs)[k]? = some (.int .i64 (ix xs k)) := by
  simp [I64, h, ix_eq h]
theorem I64_one (xs : List Int) : ∀ u ∈ I64 xs, u.oneCell' = true := by
  intro u hu
  obtain ⟨_, _, rfl⟩ := List.mem_map.1 hu
  rfl
theorem I64_append (xs ys : List Int) : I64 (xs ++ ys) = I64 xs ++ I64 ys := by simp [I64]
theorem I64_nil : I64 [] = [] := rfl
theorem I64_inj {xs ys : List Int} (h : I64 xs = I64 ys) : xs = ys := by
  unfold I64 at h
  exact (List.map_inj_right (fun a b hab => by injection hab)).1 h
theorem ext_ix {xs ys : List Int} (hl : xs.length = ys.length) (h : ∀ j, j < xs.length → ix xs j = ix ys j) : xs = ys := by
  apply List.ext_getElem hl
  intro j h1 h2
  have := h j h1
  rwa [ix_eq h1, ix_eq h2] at this
theorem ix_append_left {xs ys : List Int} {k : Nat} (h : k < xs.length) : ix (xs ++ ys) k = ix xs k := by
  simp [ix, List.getD, List.getElem?_append, h]
theorem ix_append_right {xs ys : List Int} {k : Nat} (h : xs.length ≤ k) : ix (xs ++ ys) k = ix ys (k - xs.length) := by
  simp [ix, List.getD, List.getElem?_append, Nat.not_lt.2 h]
theorem ix_mem {xs : List Int} {k : Nat} (h : k < xs.length) : ix xs k ∈ xs := by rw [ix_eq h]; exact List.getElem_mem h
theorem mem_ix {xs : List Int} {x : Int} (h : x ∈ xs) : ∃ k, k < xs.length ∧ ix xs k = x := by
  obtain ⟨k, hk, rfl⟩ := List.getElem_of_mem h
  exact ⟨k, hk, ix_eq hk⟩
theorem ix_take {xs : List Int} {k j : Nat} (h : j < k) : ix (xs.take k) j = ix xs j := by
  simp [ix, List.getD, h]
theorem take_succ_ix {xs : List Int} {k : Nat} (h : k < xs.length) : xs.take (k + 1) = xs.take k ++ [ix xs k] := by
  rw [List.take_succ_eq_append_getElem h, ix_eq h]

theorem grown_of_below' {a w : World} (h : Below a.heap.size a w) (row : Option Nat) : a.grownBy w row := ⟨h.os, h.tape, h.output, h.size, fun i hi _ => h.block i hi⟩
/-- A slice's value that reads as n elements whose cells are cs. -/
def SlC (w : World) (v : Value) (n : Nat) (cs : List Value) : Prop :=
  ∃ A c, v = .slice A n c ∧ n ≤ c ∧ c ≤ maxLen ∧ (0 < cs.length → ∃ b o, A = some ⟨b, o, none⟩ ∧ b < w.heap.size ∧ ∀ j, j < cs.length → w.cell? ⟨b, o + j, none⟩ = cs[j]?)
/-- A slice's value that reads as the numbers xs. -/
def Sl (w : World) (v : Value) (xs : List Int) : Prop := SlC w v xs.length (I64 xs)

theorem SlC.keep {w w' : World} {v : Value} {n : Nat} {cs : List Value} (h : SlC w v n cs) (hs : w.heap.size ≤ w'.heap.size)
    (hk : ∀ b o, b < w.heap.size → v.ownBlock = some b → w'.cell? ⟨b, o, none⟩ = w.cell? ⟨b, o, none⟩) : SlC w' v n cs := by
  obtain ⟨A, c, rfl, h1, h2, h3⟩ := h
  refine ⟨A, c, rfl, h1, h2, fun h0 => ?_⟩
  obtain ⟨b, o, rfl, hb, hc⟩ := h3 h0
  exact ⟨b, o, rfl, by omega, fun j hj => (hk b (o + j) hb rfl).trans (hc j hj)⟩
theorem SlC.below {w w' : World} {v : Value} {n : Nat} {cs : List Value} (h : SlC w v n cs) (hb : Below w.heap.size w w') : SlC w' v n cs :=
  h.keep hb.size fun b o hlt _ => hb.cell (p := ⟨b, o, none⟩) hlt
theorem SlC.grown {w w' : World} {v : Value} {n : Nat} {cs : List Value} {row : Option Nat} (h : SlC w v n cs) (hg : w.grownBy w' row) (hne : ∀ b, v.ownBlock = some b → some b ≠ row) : SlC w' v n cs :=
  h.keep hg.size fun b _ hlt hv => World.cell?_of_block (hg.block b hlt (hne b hv))

theorem Sl.below {w w' : World} {v : Value} {xs : List Int} (h : Sl w v xs) (hb : Below w.heap.size w w') : Sl w' v xs := SlC.below h hb
theorem Sl.later {w w' : World} {v : Value} {xs : List Int} (h : Sl w v xs) (hb : Below w.heap.size w w') : Sl w' v xs := SlC.below h hb
theorem Sl.grown {w w' : World} {v : Value} {xs : List Int} {row : Option Nat} (h : Sl w v xs) (hg : w.grownBy w' row) (hne : ∀ b, v.ownBlock = some b → some b ≠ row) : Sl w' v xs := SlC.grown h hg hne
theorem Sl.alloc {w : World} {v : Value} {xs : List Int} (h : Sl w v xs) (o : Obj) : Sl (w.alloc o) v xs := h.below ((Below.refl _ _).alloc (Nat.le_refl _) o)
theorem Sl.drew {w : World} {v : Value} {xs : List Int} (h : Sl w v xs) : Sl w.drew v xs := h
theorem Sl.drewN {w : World} {v : Value} {xs : List Int} (h : Sl w v xs) (n : Nat) : Sl (w.drewN n) v xs := h
theorem Sl.nil_ (w : World) : Sl w (.slice none 0 0) [] := ⟨none, 0, rfl, Nat.le_refl _, Nat.zero_le _, fun h => absurd h (by simp [I64])⟩

/-- What a walk wants of a slice of numbers: the value written out; the cells where there are any. -/
theorem Sl.open_ {w : World} {v : Value} {xs : List Int} (h : Sl w v xs) :
    ∃ A c, v = .slice A xs.length c ∧ xs.length ≤ c ∧ c ≤ 9223372036854775807 ∧ Hid (∀ k, k < xs.length → ∃ b o, A = some ⟨b, o, none⟩ ∧ b < w.heap.size ∧ ∀ j, j < xs.length → w.cell? ⟨b, o + j, none⟩ = some (.int .i64 (ix xs j))) := by
  obtain ⟨A, c, rfl, h1, h2, h3⟩ := h
  refine ⟨A, c, rfl, h1, by simpa only [maxLen] using h2, fun k hk => ?_⟩
  obtain ⟨b, o, rfl, hb, hc⟩ := h3 (by rw [I64_length]; omega)
  exact ⟨b, o, rfl, hb, fun j hj => by rw [hc j (by rw [I64_length]; exact hj), I64_get hj]⟩

/-- What the call owns reads as a slice. -/
theorem SlC.of_own {w : World} {base n : Nat} {e : TypeId} {size : Nat} {v : Value} {cs : List Value} (h : w.ownsRow base e size v n cs) : SlC w v n cs := by
  rcases h.2 with ⟨rfl, rfl⟩ | ⟨g, cap, cur, rfl, hg, hh, h1, h2, h3, h4⟩
  · exact ⟨none, 0, rfl, Nat.le_refl _, Nat.zero_le _, fun h0 => by have := h.1; omega⟩
  · refine ⟨_, cap, rfl, h1, h2, fun _ => ⟨g, 0, rfl, (Array.getElem?_eq_some_iff.1 hh).1, fun j hj => ?_⟩⟩
    have hu : cs[j]? = some cs[j] := List.getElem?_eq_getElem hj
    have := h.cells (g := g) rfl j _ hu
    rw [hu, ← this]
    simp [Addr.add_lit]
theorem Sl.of_own {w : World} {base : Nat} {e : TypeId} {v : Value} {xs : List Int} (h : w.ownsRow base e 1 v xs.length (I64 xs)) : Sl w v xs := SlC.of_own h

theorem own_mono {w : World} {base base' : Nat} {e : TypeId} {size : Nat} {v : Value} {n : Nat} {xs : List Value} (h : w.ownsRow base e size v n xs) (hb : base' ≤ base) : w.ownsRow base' e size v n xs := by
  obtain ⟨h1, h2⟩ := h
  refine ⟨h1, ?_⟩
  rcases h2 with h2 | ⟨g, cap, cur, hv, hg, r⟩
  · exact .inl h2
  · exact .inr ⟨g, cap, cur, hv, Nat.le_trans hb hg, r⟩
theorem own_form {w : World} {base : Nat} {e : TypeId} {size : Nat} {v : Value} {n : Nat} {xs : List Value} (h : w.ownsRow base e size v n xs) : ∃ A c, v = .slice A n c := by
  rcases h.2 with ⟨rfl, rfl⟩ | ⟨g, cap, cur, rfl, _⟩
  · exact ⟨_, _, rfl⟩
  · exact ⟨_, _, rfl⟩
theorem own_setCell {w : World} {base : Nat} {e : TypeId} {size : Nat} {v : Value} {n : Nat} {xs : List Value} (h : w.ownsRow base e size v n xs) {a : Addr} (ha : a.block < base) (u : Value) : (w.setCell a u).ownsRow base e size v n xs :=
  ownsRow_setCell_below h ha u
theorem own_below {w w' : World} {base : Nat} {e : TypeId} {size : Nat} {v : Value} {n : Nat} {xs : List Value} (h : w.ownsRow base e size v n xs) (hb : Below w.heap.size w w') : w'.ownsRow base e size v n xs :=
  h.kept (grown_of_below' hb none) (by cases hv : v.ownBlock <;> simp)
theorem own_drewN {w : World} {base : Nat} {e : TypeId} {size : Nat} {v : Value} {n : Nat} {xs : List Value} (h : w.ownsRow base e size v n xs) (k : Nat) : (w.drewN k).ownsRow base e size v n xs := h
theorem below_drewN {B : Nat} {a w : World} (h : Below B a w) (n : Nat) : Below B a (w.drewN n) := ⟨h.os, h.tape, h.output, h.size, h.block⟩
theorem bcell {W w1 : World} (hb : Below W.heap.size W w1) : (∀ b o, b < W.heap.size → w1.cell? ⟨b, o, none⟩ = W.cell? ⟨b, o, none⟩) ∧ (∀ b o, b < W.heap.size → w1.frozen? ⟨b, o, none⟩ = W.frozen? ⟨b, o, none⟩) :=
  ⟨fun b o h => hb.cell (p := ⟨b, o, none⟩) h, fun b o h => hb.frozen (p := ⟨b, o, none⟩) h⟩
theorem below_of_grown {w w' : World} {row : Option Nat} {B : Nat} (hg : w.grownBy w' row) (hB : B ≤ w.heap.size) (hr : ∀ k, row = some k → B ≤ k) : Below B w w' := (Below.refl _ _).grown hg hB hr
theorem grown_drewN {a w : World} {row : Option Nat} (h : a.grownBy w row) (n : Nat) : a.grownBy (w.drewN n) row := ⟨h.os, h.tape, h.output, h.size, h.block⟩
theorem grown_of_below {a w : World} (h : Below a.heap.size a w) (row : Option Nat) : a.grownBy w row := ⟨h.os, h.tape, h.output, h.size, fun i hi _ => h.block i hi⟩
theorem grown_trans {a b c : World} {row : Option Nat} (h : a.grownBy b row) (k : b.grownBy c row) : a.grownBy c row :=
  ⟨k.os.trans h.os, k.tape.trans h.tape, k.output.trans h.output, Nat.le_trans h.size k.size, fun i hi hn => (k.block i (Nat.lt_of_lt_of_le hi h.size) hn).trans (h.block i hi hn)⟩

/-- Block g is just the cells cs of element type t, none frozen. -/
def Blk (w : World) (g : Nat) (t : TypeId) (cs : Array Value) : Prop := w.heap[g]? = some (.cells cs t (0, 0))
section
variable {w w' : World} {g : Nat} {t : TypeId} {cs : Array Value}
theorem Blk.lt (h : Blk w g t cs) : g < w.heap.size := by
  rcases Nat.lt_or_ge g w.heap.size with hlt | hge
  · exact hlt
  · unfold Blk at h; rw [Array.getElem?_eq_none hge] at h; cases h
theorem Blk.cell (h : Blk w g t cs) (i : Nat) {v : Value} (hv : cs[i]? = some v) : w.cell? ⟨g, i, none⟩ = some v := (cell_of_row w g i cs t (0, 0) h).trans hv
theorem Blk.frozen (h : Blk w g t cs) (i : Nat) : w.frozen? ⟨g, i, none⟩ = false := by
  unfold Blk at h
  simp [World.frozen?, h]
theorem Blk.new (w : World) (t : TypeId) (cs : Array Value) : Blk (w.alloc (.cells cs t)) w.heap.size t cs := heap_alloc_new w _
theorem Blk.drewN (h : Blk w g t cs) (n : Nat) : Blk (w.drewN n) g t cs := h
theorem Blk.alloc (h : Blk w g t cs) (o : Obj) : Blk (w.alloc o) g t cs := (Below.heap_alloc w o g h.lt).trans h
theorem Blk.set_ (h : Blk w g t cs) (i : Nat) (u : Value) : Blk (w.setCell ⟨g, i, none⟩ u) g t (cs.setIfInBounds i u) := by
  unfold Blk at h ⊢
  simp [World.setCell, Array.getElem?_modify, h]
theorem Blk.far (h : Blk w g t cs) {p : Addr} (hp : g ≠ p.block) (u : Value) : Blk (w.setCell p u) g t cs := (Below.heap_setCell w p u g hp).trans h
theorem Blk.below (h : Blk w g t cs) (hb : Below w.heap.size w w') : Blk w' g t cs := (hb.block g h.lt).trans h
theorem Blk.below_drew (h : Blk w g t cs) (hb : Below w.drew.heap.size w.drew w') : Blk w' g t cs := Blk.below (w := w.drew) h hb
theorem Blk.grown {row : Option Nat} (h : Blk w g t cs) (hb : w.grownBy w' row) (hg : some g ≠ row) : Blk w' g t cs := (hb.block g h.lt hg).trans h
end

/-! A region that draws its order, whose operations read, and whose callees hand back numbers and make memory of their own: one walk in the text's order. -/
/-- What may stand behind w: a world that is as w is, below w's own size. -/
def Grow (w : World) : Type := { w' : World // Below w.heap.size w w' }
instance (w : World) : Nonempty (Grow w) := ⟨⟨w, Below.refl _ _⟩⟩
def grow (w : World) (x : Grow w) : World := x.1
theorem cell?_grow (w : World) (x : Grow w) (b o : Nat) (h : b < w.heap.size) : (grow w x).cell? ⟨b, o, none⟩ = w.cell? ⟨b, o, none⟩ := x.2.cell (p := ⟨b, o, none⟩) h
theorem frozen?_grow (w : World) (x : Grow w) (b o : Nat) (h : b < w.heap.size) : (grow w x).frozen? ⟨b, o, none⟩ = w.frozen? ⟨b, o, none⟩ := x.2.frozen (p := ⟨b, o, none⟩) h
theorem Sl.grow {w : World} {v : Value} {xs : List Int} (h : Sl w v xs) (x : Grow w) : Sl (grow w x) v xs := h.below x.2
theorem grow_class (w : World) : (fun w' => ∃ x : Grow w, w' = grow w x) = fun w' => Below w.heap.size w w' := by
  funext w'
  exact propext ⟨fun ⟨x, hx⟩ => hx ▸ x.2, fun h => ⟨⟨w', h⟩, rfl⟩⟩
theorem wp_region_grow {P : Program} {id : Nat} {Q : Exit → Act → World → Prop} {a : Act} {w : World} {l : List Oper} (hm : P.follows .mixedOrders = true) (hB : Region.lexB .any l.toArray = true)
    (h : wpQuiet P l.toArray (fun w' => ∃ x : Grow w, w' = grow w x) (fun a' => ∀ w', Below w.heap.size w w' → Q .normal a' w') l a) : (Code.region id l.toArray true).wp P Q a w := by
  refine wp_region_quiet (C := fun w' => Below w.heap.size w w') hm hB ((Below.refl _ _).drew) ?_
  rw [grow_class] at h
  simpa using h
/-- A callee's contract, in such a world. -/
theorem grow_of {P : Program} {f : FuncId} {args : Array Value} {w : World} {x : Grow w} {v : Value}
    (h : Calls P f args (grow w x) fun e w' => e = .returned v ∧ Below (grow w x).heap.size (grow w x) w') : Calls P f args (grow w x) fun e w'' => e = .returned v ∧ ∃ y : Grow w, w'' = grow w y :=
  h.mono fun _ w' ⟨he, hb⟩ => ⟨he, ⟨w', x.2.trans (hb.mono x.2.size)⟩, rfl⟩
theorem grow_same {P : Program} {f : FuncId} {args : Array Value} {w : World} {x : Grow w} {v : Value}
    (h : Calls P f args (grow w x) fun e w' => e = .returned v ∧ grow w x = w') : Calls P f args (grow w x) fun e w'' => e = .returned v ∧ ∃ y : Grow w, w'' = grow w y :=
  h.mono fun _ _ ⟨he, hw⟩ => ⟨he, x, hw.symm⟩
theorem grow_drew {P : Program} {f : FuncId} {args : Array Value} {w : World} {x : Grow w} {v : Value}
    (h : Calls P f args (grow w x) fun e w' => e = .returned v ∧ ∃ n, w' = (grow w x).drewN n) : Calls P f args (grow w x) fun e w'' => e = .returned v ∧ ∃ y : Grow w, w'' = grow w y :=
  h.mono fun _ _ ⟨he, n, hw⟩ => ⟨he, ⟨(grow w x).drewN n, x.2.os, x.2.tape, x.2.output, x.2.size, x.2.block⟩, hw⟩

theorem ret_v {a b : Value} (h : a = b) : Ending.returned a = Ending.returned b := by rw [h]
theorem ret_b {a b : Bool} (h : a = b) : Ending.returned (.bool a) = Ending.returned (.bool b) := by rw [h]
theorem ret_i {k : IntKind} {a b : Int} (h : a = b) : Ending.returned (.int k a) = Ending.returned (.int k b) := by rw [h]
theorem ret_ii {k l : IntKind} {a b c d : Int} (h : a = b) (h' : c = d) : Ending.returned (.tuple #[.int k a, .int l c]) = Ending.returned (.tuple #[.int k b, .int l d]) := by rw [h, h']
theorem ret_iii {k l m : IntKind} {a b c d e f : Int} (h : a = b) (h' : c = d) (h'' : e = f) : Ending.returned (.tuple #[.int k a, .int l c, .int m e]) = Ending.returned (.tuple #[.int k b, .int l d, .int m f]) := by rw [h, h', h'']

/-- Whether a number lies within bounds. -/
def inB (n lo hi : Int) : Bool := decide (lo ≤ n) && decide (n ≤ hi)
theorem inB_iff {n lo hi : Int} : inB n lo hi = true ↔ lo ≤ n ∧ n ≤ hi := by simp [inB]
theorem inB_t {n lo hi : Int} (h1 : lo ≤ n) (h2 : n ≤ hi) : inB n lo hi = true := inB_iff.2 ⟨h1, h2⟩
theorem inB_no {n lo hi : Int} (h : ¬ (lo ≤ n ∧ n ≤ hi)) : inB n lo hi = false := by
  rw [Bool.eq_false_iff]; exact fun e => h (inB_iff.1 e)
theorem inB_f1 {n lo hi : Int} (h1 : n < lo) : inB n lo hi = false := inB_no fun h => by omega
theorem inB_f2 {n lo hi : Int} (h1 : hi < n) : inB n lo hi = false := inB_no fun h => by omega
theorem inB_second {n lo hi : Int} (h1 : lo ≤ n) : inB n lo hi = decide (n ≤ hi) := by simp [inB, h1]

/-- Whether two lists of numbers are equal. -/
def eqL (xs ys : List Int) : Bool := decide (xs = ys)
theorem eqL_iff {xs ys : List Int} : eqL xs ys = true ↔ xs = ys := by simp [eqL]
theorem eqL_self (xs : List Int) : eqL xs xs = true := eqL_iff.2 rfl
theorem eqL_len {xs ys : List Int} (h : ¬ xs.length = ys.length) : eqL xs ys = false := by
  rw [Bool.eq_false_iff]; exact fun e => h (by rw [eqL_iff.1 e])
theorem eqL_at {xs ys : List Int} {k : Nat} (h : ¬ ix xs k = ix ys k) : eqL xs ys = false := by
  rw [Bool.eq_false_iff]; exact fun e => h (by rw [eqL_iff.1 e])
/-- The first k elements agree. -/
def SameTo (xs ys : List Int) (k : Nat) : Prop := ∀ j, j < k → ix xs j = ix ys j
theorem SameTo.zero (xs ys : List Int) : SameTo xs ys 0 := fun _ h => absurd h (Nat.not_lt_zero _)
theorem SameTo.succ {xs ys : List Int} {k : Nat} (h : SameTo xs ys k) (he : ix xs k = ix ys k) : SameTo xs ys (k + 1) := fun j hj => by
  rcases Nat.lt_or_ge j k with h1 | h1
  · exact h j h1
  · have : j = k := by omega
    subst this; exact he
theorem SameTo.eqL {xs ys : List Int} {k : Nat} (h : SameTo xs ys k) (hl : xs.length = ys.length) (hk : xs.length ≤ k) : Proofs.YtgaohmbgjjhdbaaGreatDoor.eqL xs ys = true :=
  eqL_iff.2 (ext_ix hl fun j hj => h j (by omega))

/-- n, n + 1, ..: m numbers. -/
def runUp (n : Int) (m : Nat) : List Int := (List.range m).map fun j : Nat => n + (j : Int)
theorem runUp_length (n : Int) (m : Nat) : (runUp n m).length = m := by simp [runUp]
theorem ix_runUp {n : Int} {m j : Nat} (h : j < m) : ix (runUp n m) j = n + j := by
  rw [ix_eq (by rw [runUp_length]; exact h)]; simp [runUp]

section
variable {P : Program} {w : World} {ops : Array Oper} {rest : List Oper} {o : Oper} {a : Act} {Q : Exit → Act → World → Prop}
/-- One element (of 'size' cells, 'cs') behind what the call owns: 'x' was built in a new block of its own. -/
theorem wpList_app {e : TypeId} {i : TypeInfo} {z : Value} {size bytes : Nat} (hgd : o.guard = none) (s x : Operand) (t : TypeId)
    (ho : o.op = .call { callee := .builtin .append, args := #[s, x], argTypes := #[t, t] })
    (ht : P.underlying t = some (.slice e)) (hi : P.info? e = some i) (hz : i.zero = some z) (hsize : i.size = size) (hby : i.bytes = bytes) (hzs : z.cells.size = size) (hsz : 0 < size) (hbb : bytes ≤ 1024)
    (base : Nat) (v : Value) (n : Nat) (xs : List Value) (hs : a.eval s = v) (hown : w.ownsRow base e size v n xs) (cs : List Value) (hcl : cs.length = size) (h1 : ∀ u ∈ cs, u.oneCell' = true)
    (hx : a.eval x = .slice (some ⟨w.heap.size, 0, none⟩) 1 1) (hn : n ≤ 134217728) (hbase : base ≤ w.heap.size)
    (h : ∀ v' w', w'.ownsRow base e size v' (n + 1) (xs ++ cs) → Below base w w' → w.grownBy w' v.ownBlock → (v'.ownBlock = v.ownBlock ∨ v'.ownBlock = some (w.heap.size + 1)) → wpList P ops Q rest (a.put o.dst v') w') :
    wpList P ops Q (o :: rest) a (w.alloc (.cells cs.toArray e)) := by
  refine wpList_plain hgd fun K hK => ?_
  have hnew : ∀ j u, cs[j]? = some u → (w.alloc (.cells cs.toArray e)).cell? ((⟨w.heap.size, 0, none⟩ : Addr).add j) = some u := by
    intro j u hu
    rw [Addr.add_lit, Nat.zero_add, cell_of_row _ _ j cs.toArray e (0, 0) (heap_alloc_new w _)]
    simpa using hu
  have hbytes : (n + 1) * bytes ≤ 140737488355328 := Nat.le_trans (Nat.mul_le_mul (Nat.succ_le_succ hn) hbb) (by decide)
  obtain ⟨v', w', hr, h2, h3, _, h5⟩ := run_append_own_at (P := P) (w.alloc (.cells cs.toArray e)) base t o.type e i z size bytes ht hi hz hsize hby hzs hsz v n xs (hown.alloc _) ⟨w.heap.size, 0, none⟩ 1 1 cs (by rw [hcl, Nat.one_mul]) hnew h1
    (by simp only [maxLen]; omega) hbytes (by simp; omega)
  have hg : w.grownBy w' v.ownBlock := grown_trans (World.grownBy_alloc w _ _) h3
  unfold Oper.wp execOp
  simp only [ho, resolve, invoke, builtin, Sem.run_bind, Sem.run_pure, Result.andThen_ok, List.map_toArray, List.map_cons, List.map_nil, hs, hx, hr]
  exact hK _ _ (h v' w' h2 (below_of_grown hg hbase fun k hk => (hown.lt k hk).1) hg (by simpa using h5))
end

theorem runUp_succ (n : Int) (m : Nat) : runUp n (m + 1) = runUp n m ++ [n + (m : Int)] := by simp [runUp, List.range_succ]
theorem runUp_zero (n : Int) : runUp n 0 = [] := rfl
/-- xs, its first j elements written over by k, k + 1, .. -/
def marked (xs : List Int) (k : Int) (j : Nat) : List Int := runUp k j ++ xs.drop j
theorem marked_zero (xs : List Int) (k : Int) : marked xs k 0 = xs := rfl
theorem marked_all (xs : List Int) (k : Int) : marked xs k xs.length = runUp k xs.length := by simp [marked]
theorem marked_length {xs : List Int} {k : Int} {j : Nat} (h : j ≤ xs.length) : (marked xs k j).length = xs.length := by
  simp [marked, runUp_length]; omega
theorem marked_set {xs : List Int} {k : Int} {j : Nat} (h : j < xs.length) : (I64 (marked xs k j)).set j (.int .i64 (k + (j : Int))) = I64 (marked xs k (j + 1)) := by
  have e : (I64 (marked xs k j)).set j (.int .i64 (k + (j : Int))) = I64 ((marked xs k j).set j (k + (j : Int))) := by simp [I64, List.map_set]
  rw [e, marked, marked, runUp_succ, List.set_append_right _ _ (by rw [runUp_length]; exact Nat.le_refl _), runUp_length, Nat.sub_self, List.append_assoc]
  congr 2
  rw [List.drop_eq_getElem_cons h]
  rfl

end Go.Proofs.YtgaohmbgjjhdbaaGreatDoor
