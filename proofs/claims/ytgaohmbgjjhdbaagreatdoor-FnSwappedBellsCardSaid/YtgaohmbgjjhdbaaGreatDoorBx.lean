/- Words on boxes: the blocks that a call makes of its struct parameters and results at its start, and stores of whole structs. -/
import Derived.Test.YtgaohmbgjjhdbaaGreatDoorAid
namespace Go.Proofs.YtgaohmbgjjhdbaaGreatDoor
open Go.RowKit

section
variable (w : World) (t1 t2 t3 t4 : TypeId) (c1 c2 c3 c4 : Array Value)
theorem bx1 : Blk (w.alloc (.cells c1 t1)) w.heap.size t1 c1 := Blk.new _ _ _
theorem bx2 : Blk ((w.alloc (.cells c1 t1)).alloc (.cells c2 t2)) w.heap.size t1 c1 ∧ Blk ((w.alloc (.cells c1 t1)).alloc (.cells c2 t2)) (w.heap.size + 1) t2 c2 :=
  ⟨(Blk.new _ _ _).alloc _, by have := Blk.new (w.alloc (.cells c1 t1)) t2 c2; simpa only [World.size_alloc] using this⟩
theorem bx3 : Blk (((w.alloc (.cells c1 t1)).alloc (.cells c2 t2)).alloc (.cells c3 t3)) w.heap.size t1 c1 ∧ Blk (((w.alloc (.cells c1 t1)).alloc (.cells c2 t2)).alloc (.cells c3 t3)) (w.heap.size + 1) t2 c2
    ∧ Blk (((w.alloc (.cells c1 t1)).alloc (.cells c2 t2)).alloc (.cells c3 t3)) (w.heap.size + 1 + 1) t3 c3 :=
  ⟨(bx2 w t1 t2 c1 c2).1.alloc _, (bx2 w t1 t2 c1 c2).2.alloc _, by have := Blk.new ((w.alloc (.cells c1 t1)).alloc (.cells c2 t2)) t3 c3; simpa only [World.size_alloc] using this⟩
theorem bx4 : Blk ((((w.alloc (.cells c1 t1)).alloc (.cells c2 t2)).alloc (.cells c3 t3)).alloc (.cells c4 t4)) w.heap.size t1 c1 ∧ Blk ((((w.alloc (.cells c1 t1)).alloc (.cells c2 t2)).alloc (.cells c3 t3)).alloc (.cells c4 t4)) (w.heap.size + 1) t2 c2
    ∧ Blk ((((w.alloc (.cells c1 t1)).alloc (.cells c2 t2)).alloc (.cells c3 t3)).alloc (.cells c4 t4)) (w.heap.size + 1 + 1) t3 c3 ∧ Blk ((((w.alloc (.cells c1 t1)).alloc (.cells c2 t2)).alloc (.cells c3 t3)).alloc (.cells c4 t4)) (w.heap.size + 1 + 1 + 1) t4 c4 :=
  ⟨(bx3 w t1 t2 t3 c1 c2 c3).1.alloc _, (bx3 w t1 t2 t3 c1 c2 c3).2.1.alloc _, (bx3 w t1 t2 t3 c1 c2 c3).2.2.alloc _, by have := Blk.new (((w.alloc (.cells c1 t1)).alloc (.cells c2 t2)).alloc (.cells c3 t3)) t4 c4; simpa only [World.size_alloc] using this⟩
end
theorem Blk.put2 {w : World} {g : Nat} {t : TypeId} {a b : Value} (h : Blk w g t #[a, b]) (a' b' : Value) : Blk ((w.setCell ⟨g, 0, none⟩ a').setCell ⟨g, 1, none⟩ b') g t #[a', b'] := (h.set_ 0 a').set_ 1 b'
theorem Blk.put3 {w : World} {g : Nat} {t : TypeId} {a b c : Value} (h : Blk w g t #[a, b, c]) (a' b' c' : Value) : Blk (((w.setCell ⟨g, 0, none⟩ a').setCell ⟨g, 1, none⟩ b').setCell ⟨g, 2, none⟩ c') g t #[a', b', c'] := ((h.set_ 0 a').set_ 1 b').set_ 2 c'
theorem Blk.put1 {w : World} {g : Nat} {t : TypeId} {a : Value} (h : Blk w g t #[a]) (a' : Value) : Blk (w.setCell ⟨g, 0, none⟩ a') g t #[a'] := h.set_ 0 a'
theorem Blk.drew {w : World} {g : Nat} {t : TypeId} {cs : Array Value} (h : Blk w g t cs) : Blk w.drew g t cs := h
/-- What stands below V stands below V while the world goes on. -/
theorem grown_again {V w w' : World} (h : Below V.heap.size V w) (hb : Below w.heap.size w w') : Below V.heap.size V w' := h.trans (hb.mono h.size)

theorem Blk.belowB {w w' : World} {g B : Nat} {t : TypeId} {cs : Array Value} (h : Blk w g t cs) (hb : Below B w w') (hg : g < B) : Blk w' g t cs := (hb.block g hg).trans h
theorem own_ne {w : World} {base : Nat} {e : TypeId} {size : Nat} {v : Value} {n : Nat} {xs : List Value} (h : w.ownsRow base e size v n xs) {k : Nat} (hk : k < base ∨ w.heap.size ≤ k) : some k ≠ v.ownBlock := fun e => by
  have := h.lt k e.symm
  omega
theorem own_far {w : World} {base : Nat} {e : TypeId} {size : Nat} {v : Value} {n : Nat} {xs : List Value} (h : w.ownsRow base e size v n xs) {a : Addr} (ha : some a.block ≠ v.ownBlock) (u : Value) : (w.setCell a u).ownsRow base e size v n xs :=
  h.kept (row := some a.block) ⟨rfl, rfl, rfl, by simp, fun i hi hn => Below.heap_setCell w a u i (fun e => hn (by rw [e]))⟩ (Or.inr fun e => ha e.symm)
section
variable {w : World} {ops : Array Oper} {rest : List Oper} {o : Oper} {a : Act} {Q : Exit → Act → World → Prop}
/-- 'xs = append(xs, x)' on numbers that the call owns; what it leaves alone. -/
theorem wpList_app1g (hgd : o.guard = none) (s x : Operand) (ho : o.op = .call { callee := .builtin .append, args := #[s, x], argTypes := #[27, 27] })
    (base : Nat) (v : Value) (xs : List Int) (hs : a.eval s = v) (hown : w.ownsRow base 2 1 v xs.length (I64 xs)) (n : Int)
    (g : Nat) (hx : a.eval x = .slice (some ⟨g, 0, none⟩) 1 1) (hg : w.heap.size = g) (hn : xs.length ≤ 134217728) (hbase : base ≤ w.heap.size)
    (h : ∀ v' w', w'.ownsRow base 2 1 v' (xs ++ [n]).length (I64 (xs ++ [n])) → Below base w w' → w.grownBy w' v.ownBlock → wpList Tryz.prog ops Q rest (a.put o.dst v') w') :
    wpList Tryz.prog ops Q (o :: rest) a (w.alloc (.cells #[.int .i64 n] 2)) := by
  subst hg
  obtain ⟨i0, hi, hz0, hz1, hz2⟩ := info_parts int_info
  exact wpList_app hgd s x _ ho Tryz.underlying27 hi hz0 hz1 hz2 rfl (by decide) (by decide) base v xs.length (I64 xs) hs hown [.int .i64 n] rfl (by intro u hu; simp at hu; subst hu; rfl) hx hn hbase
    (fun v' w' h1 h2 h3 _ => h v' w' (by simpa [I64] using h1) h2 h3)
end


theorem own_lit {base : Nat} (w : World) (H : Nat) (hH : w.heap.size = H) (hb : base ≤ H) (t : TypeId) : (w.alloc (.cells #[] t)).ownsRow base t 1 (.slice (some ⟨H, 0, none⟩) 0 0) 0 [] := by
  subst hH
  exact World.ownsRow_lit w #[] 0 hb (Nat.zero_le _) rfl
/-- The row of a value that a call made lies between two sizes of the heap. -/
def Rng (v : Value) (lo hi : Nat) : Prop := ∀ k, v.ownBlock = some k → lo ≤ k ∧ k < hi
theorem rng_of {w : World} {base lo : Nat} {e : TypeId} {size : Nat} {v : Value} {n : Nat} {xs : List Value} (h : w.ownsRow base e size v n xs) (hb : lo ≤ base) : Rng v lo w.heap.size := fun k hk => ⟨Nat.le_trans hb (h.lt k hk).1, (h.lt k hk).2⟩
theorem Rng.ne {v : Value} {lo hi g : Nat} (h : Rng v lo hi) (hg : g < lo ∨ hi ≤ g) : some g ≠ v.ownBlock := fun e => by have := h g e.symm; omega
theorem Rng.apart {v u : Value} {lo hi lo' hi' : Nat} (h : Rng v lo hi) (h' : Rng u lo' hi') (hg : hi ≤ lo' ∨ hi' ≤ lo) : v.ownBlock = none ∨ v.ownBlock ≠ u.ownBlock := by
  cases hv : v.ownBlock with
  | none => exact Or.inl rfl
  | some k => exact Or.inr fun e => by have := h k hv; have := h' k e.symm; omega
theorem below_grown {W w w' : World} {v : Value} {lo hi : Nat} (h : Below W.heap.size W w) (hg : w.grownBy w' v.ownBlock) (hr : Rng v lo hi) (hl : W.heap.size ≤ lo) : Below W.heap.size W w' := h.grown hg h.size fun k hk => Nat.le_trans hl (hr k hk).1

section
variable {w : World} {ops : Array Oper} {o : Oper} {a : Act} {K : Act → World → Prop} {Q : Exit → Act → World → Prop} {E : Prop}
/-- 'xs = append(xs, n)' on numbers that the call owns, in a region that draws its order. -/
theorem step_app1 (hgd : o.guard = none) (s x : Operand) (ho : o.op = .call { callee := .builtin .append, args := #[s, x], argTypes := #[27, 27] })
    (base : Nat) (v : Value) (xs : List Int) (hs : a.eval s = v) (hown : w.ownsRow base 2 1 v xs.length (I64 xs)) (n : Int)
    (g : Nat) (hx : a.eval x = .slice (some ⟨g, 0, none⟩) 1 1) (hnew : w.heap[g]? = some (.cells #[.int .i64 n] 2 (0, 0))) (hn : xs.length ≤ 134217728) (hbase : base ≤ w.heap.size)
    (h : ∀ b c w', w'.ownsRow base 2 1 (.slice (some ⟨b, 0, none⟩) (xs.length + 1) c) (xs ++ [n]).length (I64 (xs ++ [n])) → Below base w w' → w.grownBy w' v.ownBlock → K (a.put o.dst (.slice (some ⟨b, 0, none⟩) (xs.length + 1) c)) w') :
    if Region.wanted o (yielded ops a.tmps) = true then Oper.wp Tryz.prog o a w K Q else E := by
  obtain ⟨i0, hi, hz0, hz1, hz2⟩ := info_parts int_info
  refine step_append_lies w hgd s x _ ho base 2 i0 _ 1 8 Tryz.underlying27 hi hz0 hz1 hz2 rfl (by decide) v xs.length (I64 xs) hs hown ⟨g, 0, none⟩ 1 1 [.int .i64 n] hx rfl
    (World.news_of_block (cs := #[.int .i64 n]) (t := 2) (fr := (0, 0)) hnew) (by intro u hu; simp at hu; subst hu; rfl) (by decide) (by simp only [maxLen]; omega) (by omega) hbase w.heap.size rfl ?_
  intro b c w' h1 h2 _ _
  exact h b c w' (by simpa [I64] using h1) (below_of_grown h2 hbase fun k hk => (hown.lt k hk).1) h2
end

section
variable {P : Program} {w : World} {ops : Array Oper} {o : Oper} {a : Act} {K : Act → World → Prop} {Q : Exit → Act → World → Prop} {E : Prop}
/-- A call of two arguments that only reckons, in a region that draws its order. -/
theorem step_call2 (hgd : o.guard = none) (F : FuncId) (s x : Operand) (t1 t2 : TypeId) (ho : o.op = .call { callee := .value (.func F), args := #[s, x], argTypes := #[t1, t2] }) (v1 v2 v : Value) (hs : a.eval s = v1) (hx : a.eval x = v2)
    (fn : Func) (hF : P.funcs[F]? = some fn) (hN : (fn.name == "runtime.NumGoroutine") = false) (hB : fn.body.isNone = false) (hc : Calls P F #[v1, v2] w fun e w' => e = .returned v ∧ w = w') (hK : K (a.put o.dst v) w) :
    if Region.wanted o (yielded ops a.tmps) = true then Oper.wp P o a w K Q else E := by
  have hw : Region.wanted o (yielded ops a.tmps) = true := by simp [Region.wanted, hgd]
  rw [if_pos hw]
  unfold Oper.wp execOp
  have hf : a.eval (.func F) = .func (.func F) #[] #[] := rfl
  simp only [ho, resolve, invoke, Sem.run_bind, List.map_toArray, List.map_cons, List.map_nil, hs, hx, hf]
  unfold Deferred.ofValue callFunc
  have hp : Sem.run P program w = .ok P w := rfl
  simp only [Sem.run_bind, Sem.run_pure, Result.andThen_ok, hp, hF, hN, hB, Bool.false_eq_true, if_false]
  refine hc.mono ?_
  rintro e w' ⟨rfl, rfl⟩
  exact hK
end
theorem quiet_add_same {P : Program} {f : FuncId} {args : Array Value} {w : World} {a n : Nat} {v : Value}
    (h : Calls P f args (w.drewN (a + n)) fun e w' => e = .returned v ∧ w' = w.drewN (a + n)) :
    Calls P f args (w.drewN (a + n)) fun e w'' => e = .returned v ∧ ∃ m, w'' = w.drewN (a + m) :=
  h.mono fun _ _ ⟨he, hm⟩ => ⟨he, n, hm⟩
end Go.Proofs.YtgaohmbgjjhdbaaGreatDoor
