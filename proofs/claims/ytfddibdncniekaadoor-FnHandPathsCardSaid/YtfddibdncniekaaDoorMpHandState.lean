/- A set of states, kept in a map from HandState to bool that the call has made: made, asked, written, counted. -/
import Derived.Test.YtfddibdncniekaaDoorPxB
import Derived.Test.YtfddibdncniekaaDoorRow
import Derived.Maps.OwnOps
import Derived.Maps.OwnSet
import Derived.Maps.Views
import Derived.DeepKeys4
namespace Go.Proofs.YtfddibdncniekaaDoor
open Go.RowKit Go.Maps Go.WideShapes

/-- A state's key, as it is told. -/
def klP (x : Int × Int) : Lit := .string (keyBytes [.int .i64 x.1, .int .i64 x.2])
/-- A state's numbers are numbers of Go's. -/
def WfP (x : Int × Int) : Prop := (Lit.int .i64 x.1).wf = true ∧ (Lit.int .i64 x.2).wf = true
theorem wfP {x : Int × Int} (h1 : -9223372036854775808 ≤ x.1 ∧ x.1 ≤ 9223372036854775807) (h2 : -9223372036854775808 ≤ x.2 ∧ x.2 ≤ 9223372036854775807) : WfP x := by
  refine ⟨?_, ?_⟩ <;> simp [Lit.wf, IntKind.min, IntKind.max, IntKind.signed, IntKind.bits] <;> omega
theorem klP_key (x : Int × Int) : WideAt.IsKeyLit (klP x) := trivial
theorem isS : ∃ fs, Tryd.prog.underlying 28 = some (.struct fs) := ⟨_, Tryd.underlying28⟩
theorem lawS : WideMaps.KeyLaw Tryd.prog 28 := deep_law_laid Tryd.laidOut (m := 2) (by omega) (of_decide_eq_true (by kernel_rfl)) (by kernel_rfl) (by kernel_rfl)
theorem keyedS : Keyed Tryd.prog 28 := Keyed.of_law lawS
theorem keyS {x : Int × Int} (h : WfP x) : keyOf Tryd.prog 28 (.agg #[.int .i64 x.1, .int .i64 x.2]) = some (klP x) := by
  have e1 : Tryd.prog.keyType 28 = true := by kernel_rfl
  have e2 : Tryd.prog.cellsOf 28 = 2 := by kernel_rfl
  have e3 : Tryd.prog.cellsOf 2 = 1 := by kernel_rfl
  have e4 : (Value.agg #[.int .i64 x.1, .int .i64 x.2]).formed Tryd.prog 28 = true := by simp [Value.formed, Tryd.underlying28, e2]
  obtain ⟨n, hn⟩ : ∃ n, Tryd.prog.types.size = n + 1 := ⟨_, show Tryd.prog.types.size = (Tryd.prog.types.size - 1) + 1 by kernel_rfl⟩
  unfold keyOf
  rw [Tryd.underlying28, hn]
  simp [e1, e4, Program.keyLits, Tryd.underlying28, Tryd.underlying2, Value.cells, e2, e3, h.1, h.2, klP]
theorem klP_inj {x y : Int × Int} (hx : WfP x) (hy : WfP y) (h : klP x = klP y) : x = y := by
  have := keyedS.inj (keyS hx) (h ▸ keyS hy)
  simp only [Value.agg.injEq] at this
  have h1 : (#[.int .i64 x.1, .int .i64 x.2] : Array Value).toList = (#[.int .i64 y.1, .int .i64 y.2] : Array Value).toList := by rw [this]
  simp only [List.cons.injEq, Value.int.injEq, true_and, and_true] at h1
  exact Prod.ext h1.1 h1.2

/-- The set as it is told. -/
def setP (S : List (Int × Int)) : DataW Unit := setOf (.lit (.bool true)) (S.map klP)
theorem keys_ok (S : List (Int × Int)) : ∀ l ∈ S.map klP, WideAt.IsKeyLit l := fun l hl => by
  obtain ⟨x, _, rfl⟩ := List.mem_map.1 hl
  trivial
theorem setP_snoc (S : List (Int × Int)) (x : Int × Int) : setP (S ++ [x]) = (setP S).put (klP x) (.lit (.bool true)) := by
  rw [setP, List.map_append, List.map_singleton, setOf_snoc]; rfl
theorem at_fold (l : Lit) (hl : WideAt.IsKeyLit l) : ∀ (acc : List Lit) (m : DataW Unit), IsMap m → (acc.foldl (fun m x => m.put x (.lit (.bool true))) m).atKey l (.lit (.bool false)) = if acc.any (fun x => x.sameKey l) = true then .lit (.bool true) else m.atKey l (.lit (.bool false))
  | [], m, _ => by simp
  | x :: r, m, hm => by
    rw [List.foldl_cons, at_fold l hl r _ (hm.put x _), List.any_cons]
    cases h : r.any (fun x => x.sameKey l)
    · rw [if_neg (by simp), Bool.or_false]
      by_cases e : l = x
      · subst e; rw [if_pos (WideAt.sameKey_self hl), atKey_put_same hm hl]
      · rw [sameKey_ne (fun e' => e e'.symm), if_neg (by simp), atKey_put_other e]
    · rw [if_pos rfl, Bool.or_true, if_pos rfl]
theorem at_setP {S : List (Int × Int)} {x : Int × Int} (hS : ∀ y ∈ S, WfP y) (hx : WfP x) : (setP S).atKey (klP x) (.lit (.bool false)) = .lit (.bool (decide (x ∈ S))) := by
  rw [setP, setOf, at_fold _ (klP_key x) _ _ isMap_empty]
  have e0 : ((S.map klP).any fun y => y.sameKey (klP x)) = decide (x ∈ S) := by
    rw [Bool.eq_iff_iff, decide_eq_true_eq, List.any_eq_true]
    constructor
    · rintro ⟨l, hl, e⟩
      obtain ⟨y, hy, rfl⟩ := List.mem_map.1 hl
      exact klP_inj (hS y hy) hx (WideAt.sameKey_eq e) ▸ hy
    · intro h; exact ⟨klP x, List.mem_map.2 ⟨x, h, rfl⟩, WideAt.sameKey_self (klP_key x)⟩
  rw [e0]
  by_cases h : x ∈ S
  · simp [h]
  · simp [h, DataW.atKey]
theorem size_setP : ∀ {S : List (Int × Int)}, S.Nodup → (∀ y ∈ S, WfP y) → size (setP S) = S.length := by
  have key : ∀ (S acc : List (Int × Int)), (acc ++ S).Nodup → (∀ y ∈ acc ++ S, WfP y) → ((S.map klP).foldl addKey (acc.map klP)).length = acc.length + S.length := fun S => by
    induction S with
    | nil => intro acc _ _; simp
    | cons x S ih =>
      intro acc hd hw
      have hx : (acc.map klP).any (fun y => y.sameKey (klP x)) = false := by
        rw [List.any_eq_false]
        intro l hl hs
        obtain ⟨y, hy, rfl⟩ := List.mem_map.1 hl
        have e := klP_inj (hw y (by simp [hy])) (hw x (by simp)) (WideAt.sameKey_eq hs)
        subst e
        have := (List.nodup_append.1 hd).2.2 y hy y (by simp)
        exact this rfl
      rw [List.map_cons, List.foldl_cons, addKey, hx]
      have h2 := ih (acc ++ [x]) (by simpa using hd) (by simpa using hw)
      rw [List.map_append, List.map_singleton] at h2
      simp only [Bool.false_eq_true, if_false]
      rw [h2]
      simp
      omega
  intro S hd hw
  rw [setP, size_setOf _ _ (keys_ok S)]
  have := key S [] (by simpa using hd) (by simpa using hw)
  simpa using this

/-- Block b is a map that keeps the set. -/
def Seen (w : World) (b : Nat) (S : List (Int × Int)) : Prop := w.ownsMap (H := Unit) Tryd.prog 28 (plainElem Tryd.prog 4) b S.length (setP S)
section
variable {w w' : World} {b : Nat} {S : List (Int × Int)}
theorem Seen.new (w : World) : Seen (w.alloc (.map #[] 0)) w.heap.size [] := World.ownsMap_made w _ _ _
theorem Seen.lt (h : Seen w b S) : b < w.heap.size := World.ownsMap.lt h
theorem Seen.kept {row : Option Nat} (h : Seen w b S) (hg : w.grownBy w' row) (hne : some b ≠ row) : Seen w' b S := World.ownsMap.kept h hg hne
theorem Seen.alloc (h : Seen w b S) (o : Obj) : Seen (w.alloc o) b S := World.ownsMap.alloc h o
theorem Seen.drew (h : Seen w b S) : Seen w.drew b S := h
theorem Seen.far (h : Seen w b S) {p : Addr} (hp : b ≠ p.block) (u : Value) : Seen (w.setCell p u) b S := World.ownsMap.setCell h hp u
theorem Seen.belowB {B : Nat} (h : Seen w b S) (hb : Below B w w') (hB : b < B) : Seen w' b S := by
  obtain ⟨es, clock, h1, h2⟩ := h
  exact ⟨es, clock, (hb.block b hB).trans h1, h2⟩
theorem Seen.below (h : Seen w b S) (hb : Below w.heap.size w w') : Seen w' b S := h.belowB hb h.lt
set_option maxRecDepth 100000 in
theorem Seen.ask (h : Seen w b S) (hS : ∀ y ∈ S, WfP y) {x : Int × Int} (hx : WfP x) : (Instr.lookup 108 (.map (some b)) (.agg #[.int .i64 x.1, .int .i64 x.2]) false).run Tryd.prog w = .ok (.bool (decide (x ∈ S))) w := by
  obtain ⟨v, ps, hr, hv⟩ := World.ownsMap.lookup h keyedS Tryd.underlying108 (z := .bool false) (by kernel_rfl) (plainElem_bool Tryd.underlying4 false) (keyS hx)
  rw [at_setP hS hx] at hv
  have e : v = .bool (decide (x ∈ S)) := by
    unfold plainElem at hv
    rw [Tryd.underlying4] at hv
    cases v <;> simp at hv
    rw [← hv.1]
  rw [e] at hr
  exact hr
set_option maxRecDepth 100000 in
theorem Seen.count (h : Seen w b S) (hd : S.Nodup) (hS : ∀ y ∈ S, WfP y) (ty : TypeId) : (Builtin.len_ #[108] ty #[.map (some b)]).run Tryd.prog w = .ok (.int .i64 S.length) w := by
  have := World.ownsMap.len h Tryd.underlying108 ty
  rw [size_setP hd hS] at this
  exact this
end
set_option maxRecDepth 100000 in
/-- 'm[x] = true'. -/
theorem wpList_see {w : World} {ops : Array Oper} {rest : List Oper} {o : Oper} {a : Act} {Q : Exit → Act → World → Prop} (hg : o.guard = none) (m x v : Operand) (hop : o.op = .mapUpdate 108 m x v ∨ o.op = .insert 108 m x v)
    (b : Nat) (S : List (Int × Int)) (hm : a.eval m = .map (some b)) (hown : Seen w b S) (hn : S.length ≤ 1000000) (y : Int × Int) (hx : a.eval x = .agg #[.int .i64 y.1, .int .i64 y.2]) (hv : a.eval v = .bool true) (hy : WfP y)
    (hK : ∀ w', Seen w' b (S ++ [y]) → w.grownBy w' (some b) → wpList Tryd.prog ops Q rest (a.put o.dst undef) w') :
    wpList Tryd.prog ops Q (o :: rest) a w := by
  refine wpList_plain hg fun K' hK' => ?_
  obtain ⟨w', hrun, r1, r2⟩ := World.ownsMap.update hown keyedS Tryd.underlying108 (by simp only [maxLen]; omega) (keyS hy) (plainElem_bool Tryd.underlying4 true)
  have r3 : Seen w' b (S ++ [y]) := by
    unfold Seen
    rw [setP_snoc, List.length_append]
    exact r1
  unfold Oper.wp
  rcases hop with hop | hop
  · simp [execOp, hop, hm, hx, hv, hrun, Result.andThen]
    exact hK' _ _ (hK w' r3 r2)
  · simp [execOp, hop, hm, hx, hv, hrun, Result.andThen]
    exact hK' _ _ (hK w' r3 r2)
end Go.Proofs.YtfddibdncniekaaDoor
