/- Chimes: texts of barrels in plain terms; the library's Join and FormatInt as this program holds them. -/
import Derived.Test.YtgaohmbgjjhdbaaGreatDoorChBd
import Derived.Test.YtgaohmbgjjhdbaaGreatDoorShBt
import Derived.Shelf.Strings.OnBuilder
import Derived.Shelf.Strconv.Itoa4
namespace Go.Proofs.YtgaohmbgjjhdbaaGreatDoor
open Go.RowKit Go.Shelf
attribute [local go_sem ↓] Go.wp_at_zero Go.wp_at_succ

/-- The letter of a bell. -/
def ltB (b : Int) : UInt8 := UInt8.ofNat (97 + b.toNat)
/-- The letters of step s among the first k pins; of a whole step; of the first n steps. -/
def rowL (ps : List (Int × Int)) (s k : Nat) : List UInt8 := (bA ps s k).map ltB
def stL (ps : List (Int × Int)) (s : Nat) : List UInt8 := if rowL ps s ps.length = [] then [45] else rowL ps s ps.length
def stsL (ps : List (Int × Int)) (n : Nat) : List (List UInt8) := (List.range n).map (stL ps)
theorem stsL_zero (ps : List (Int × Int)) : stsL ps 0 = [] := rfl
theorem stsL_succ (ps : List (Int × Int)) (n : Nat) : stsL ps (n + 1) = stsL ps n ++ [stL ps n] := by simp [stsL, List.range_succ]
theorem stsL_length (ps : List (Int × Int)) (n : Nat) : (stsL ps n).length = n := by simp [stsL]
/-- The text, up to step n. -/
def txL (bl : Int) (ps : List (Int × Int)) (n : Nat) : List UInt8 := (Lib.decDigits bl.toNat ++ [58]) ++ Lib.join (stsL ps n) [46]
theorem join_snoc (xs : List (List UInt8)) (x sep : List UInt8) (h : xs ≠ []) : Lib.join (xs ++ [x]) sep = Lib.join xs sep ++ sep ++ x := by
  induction xs with
  | nil => exact absurd rfl h
  | cons a xs ih =>
    cases xs with
    | nil => simp [Lib.join, List.intercalate]
    | cons b xs =>
      have := ih (by simp)
      simp only [Lib.join, List.intercalate, List.cons_append, List.intersperse_cons_cons, List.flatten_cons, List.append_assoc] at this ⊢
      rw [this]
theorem txL_zero (bl : Int) (ps : List (Int × Int)) : txL bl ps 0 = Lib.decDigits bl.toNat ++ [58] := by simp [txL, stsL_zero, Lib.join_nil]
theorem txL_one (bl : Int) (ps : List (Int × Int)) : txL bl ps 1 = txL bl ps 0 ++ stL ps 0 := by
  rw [txL_zero, txL, stsL_succ, stsL_zero]
  simp [Lib.join_one]
theorem txL_succ (bl : Int) (ps : List (Int × Int)) {n : Nat} (h : 0 < n) : txL bl ps (n + 1) = txL bl ps n ++ [46] ++ stL ps n := by
  have hne : stsL ps n ≠ [] := fun e => by have := stsL_length ps n; rw [e] at this; simp at this; omega
  rw [txL, stsL_succ, join_snoc _ _ _ hne, txL]
  simp
theorem rowL_length (ps : List (Int × Int)) (s k : Nat) : (rowL ps s k).length ≤ k := by rw [rowL, List.length_map]; exact bA_length ps s k
theorem stL_length (ps : List (Int × Int)) (s : Nat) : (stL ps s).length ≤ ps.length + 1 := by
  unfold stL
  split
  · simp
  · have := rowL_length ps s ps.length; omega
def bT (l : List UInt8) : ByteArray := ⟨l.toArray⟩
theorem bT_app (a b : List UInt8) : bT (a ++ b) = bT a ++ bT b := by
  apply ByteArray.ext
  rw [ByteArray.data_append]
  simp [bT]
theorem bT_size (l : List UInt8) : (bT l).size = l.length := by show (l.toArray).size = _; simp
theorem bT_inj {a b : List UInt8} (h : bT a = bT b) : a = b := by
  have := congrArg ByteArray.data h
  simpa [bT] using this
/-- The cells of a list of texts. -/
def X64 (L : List (List UInt8)) : List Value := L.map fun l => .string (bT l)
theorem X64_append (L M : List (List UInt8)) : X64 (L ++ M) = X64 L ++ X64 M := by simp [X64]
theorem X64_length (L : List (List UInt8)) : (X64 L).length = L.length := by simp [X64]
theorem string_info : (Tryz.prog.info? 9).map (fun i => (i.zero, i.size, i.bytes)) = some (some (.string ⟨#[]⟩), 1, 16) := by kernel_rfl
theorem extraJoin : Builder.Extra Tryz.prog YtgaohmbgjjhdbaaGreatDoor.layJoin_ren := {
  sizeBuilder := by kernel_rfl
  liesBuilder := by kernel_rfl
  t5 := Tryz.underlying5
  a5 := Tryz.isAgg5
  z5 := Tryz.sizeOf5
  v5 := Tryz.zeroValue5
  infoByte := by kernel_rfl
  cellsByte := by kernel_rfl
  sizeByte := by kernel_rfl
  neB5 := by decide }
theorem Join_own {base : Nat} (v : Value) (L : List (List UInt8)) (w : World) (ho : w.ownsRow base 9 1 v L.length (X64 L)) (hn : L.length ≤ 100000) (hl : (Lib.join L [46]).length ≤ 1000000) :
    Calls Tryz.prog 30 #[v, .string ⟨#[46]⟩] w fun e w' => e = .returned (.string (bT (Lib.join L [46]))) ∧ Below w.heap.size w w' := by
  by_cases h0 : L.length = 0
  · obtain rfl : L = [] := List.length_eq_zero_iff.1 h0
    obtain ⟨A, c, rfl⟩ := own_form ho
    exact (Any.strings_Join_none YtgaohmbgjjhdbaaGreatDoor.layJoin extraJoin A c ⟨#[46]⟩ w).mono fun e w' ⟨he, hw⟩ => ⟨he, hw ▸ Below.refl _ _⟩
  · obtain ⟨g, c, rfl, hb, hg⟩ := ho.form (by omega)
    have e1 : (L.map bT).length = L.length := by simp
    have e2 : (L.map bT).map (·.data.toList) = L := by
      rw [List.map_map]
      conv => rhs; rw [← List.map_id L]
      exact List.map_congr_left fun l _ => by simp [bT]
    have hcap : L.length ≤ c := by
      rcases ho.2 with ⟨e, _⟩ | ⟨g', c', cur, e, _, _, h3, _⟩
      · cases e
      · injection e with _ _ e3; omega
    have hcon := Any.strings_Join YtgaohmbgjjhdbaaGreatDoor.layJoin extraJoin g 0 c (L.map bT) ⟨#[46]⟩ w (fun j x hx => by
      have hj : j < L.length := by rw [← e1]; exact (List.getElem?_eq_some_iff.1 hx).1
      rw [Nat.zero_add, ho.cellAt j (by omega), X64, List.getElem?_map]
      rw [List.getElem?_map] at hx
      obtain ⟨l, hl1, hl2⟩ := Option.map_eq_some_iff.1 hx
      rw [hl1, ← hl2]; rfl) hg (by omega) (by omega) (by rw [e2]; exact Nat.le_trans hl (by decide))
    rw [e1, e2] at hcon
    exact hcon
theorem Decimal_any (n : Nat) (hn : n < 100) (w : World) :
    Calls Tryz.prog 29 #[.int .i64 (n : Int)] w fun e w' => e = .returned (.string (bT (Lib.decDigits n))) ∧ w' = w := by
  have HC := Lib.hid (fun w => Any.strconv_FormatInt_10_small YtgaohmbgjjhdbaaGreatDoor.layFmt n hn w)
  go_enter Tryz.func29, Tryz.ntmps29
  go_wp2_with fail
  refine (HC.out _).mono ?_
  rintro e w' ⟨rfl, rfl⟩
  go_wp2
  go_ret
  exact ⟨rfl, rfl⟩
section
variable {w : World} {ops : Array Oper} {rest : List Oper} {o : Oper} {a : Act} {Q : Exit → Act → World → Prop}
/-- A text is put behind a row of texts that the call owns. -/
theorem wpList_appX (hgd : o.guard = none) (s x : Operand) (ho : o.op = .call { callee := .builtin .append, args := #[s, x], argTypes := #[52, 52] })
    (base : Nat) (v : Value) (L : List (List UInt8)) (hs : a.eval s = v) (hown : w.ownsRow base 9 1 v L.length (X64 L)) (y : List UInt8)
    (g : Nat) (hx : a.eval x = .slice (some ⟨g, 0, none⟩) 1 1) (hg : w.heap.size = g) (hn : L.length ≤ 134217728) (hbase : base ≤ w.heap.size)
    (h : ∀ v' w', w'.ownsRow base 9 1 v' (L ++ [y]).length (X64 (L ++ [y])) → Below base w w' → w.grownBy w' v.ownBlock → wpList Tryz.prog ops Q rest (a.put o.dst v') w') :
    wpList Tryz.prog ops Q (o :: rest) a (w.alloc (.cells #[.string (bT y)] 9)) := by
  subst hg
  obtain ⟨i0, hi, hz0, hz1, hz2⟩ := info_parts string_info
  exact wpList_app hgd s x _ ho Tryz.underlying52 hi hz0 hz1 hz2 rfl (by decide) (by decide) base v L.length (X64 L) hs hown [.string (bT y)] rfl (by intro u hu; simp at hu; subst hu; rfl) hx hn hbase
    (fun v' w' h1 h2 h3 _ => h v' w' (by rw [X64_append]; simpa [X64] using h1) h2 h3)
end
theorem bA_in {st bl : Int} {ps : List (Int × Int)} (h : PinsTo st bl ps ps.length) (s : Nat) : ∀ k, k ≤ ps.length → ∀ x ∈ bA ps s k, 0 ≤ x ∧ x ≤ bl - 1
  | 0, _, x, hx => by cases hx
  | k + 1, hk, x, hx => by
    rw [bA] at hx
    split at hx
    · rcases List.mem_append.1 hx with hx | hx
      · exact bA_in h s k (by omega) x hx
      · rw [List.mem_singleton.1 hx]
        exact (pins_in h (i := k) (by omega)).2
    · exact bA_in h s k (by omega) x hx
theorem lt_conv {x : Int} (h0 : 0 ≤ x) (h1 : x ≤ 7) : IntKind.i32.wrap (97 + x) = 97 + x ∧ Utf8.encode (97 + x) = bT [ltB x] := by
  rcases (show x = 0 ∨ x = 1 ∨ x = 2 ∨ x = 3 ∨ x = 4 ∨ x = 5 ∨ x = 6 ∨ x = 7 by omega) with rfl | rfl | rfl | rfl | rfl | rfl | rfl | rfl <;> exact ⟨IntWalk.i32_in _ (by decide +kernel), by kernel_rfl⟩

theorem jn_le (ps : List (Int × Int)) (hp : ps.length ≤ 128) : ∀ {n : Nat}, n ≤ 64 → (Lib.join (stsL ps n) [46]).length ≤ 1000000 := fun {n} hn => by
  have key : ∀ n, (Lib.join (stsL ps n) [46]).length ≤ 200 * n := fun n => by
    induction n with
    | zero => simp [stsL_zero, Lib.join_nil]
    | succ n ih =>
      have hs := stL_length ps n
      by_cases h0 : n = 0
      · subst h0
        rw [stsL_succ, stsL_zero]
        simp only [List.nil_append, Lib.join_one]; omega
      · have hne : stsL ps n ≠ [] := fun e => by have := stsL_length ps n; rw [e] at this; simp at this; omega
        rw [stsL_succ, join_snoc _ _ _ hne]
        simp only [List.length_append, List.length_singleton]; omega
  have := key n
  omega
theorem dec_le {n : Nat} (h : n ≤ 8) : (Lib.decDigits n).length ≤ 100 := by
  rw [Lib.decDigits, dif_pos (by omega)]; simp
set_option maxRecDepth 100000 in
set_option maxHeartbeats 8000000 in
theorem BarrelText_i0 (v : Value) (ps : List (Int × Int)) (S : Nat) (bl : Int) (w : World) (hv : SlP w v ps) (hs : brB (S : Int) bl ps = true) :
    Calls Tryz.prog 8 #[.agg #[.int .i64 (S : Int), .int .i64 bl, v]] w fun e w' => e = .returned (.string (bT (txL bl ps S))) ∧ Below w.heap.size w w' := by
  have H1 := Lib.hid (fun w' (hb : Below w.heap.size w w') => ValidBarrel_i v ps S bl w' (hv.below hb))
  have H2 := Lib.hid (fun w' (hb : Below w.heap.size w w') => bellsAt_any v ps S bl w' (hv.below hb) hs)
  have HB := Lib.hid hs
  obtain ⟨⟨s1, s2⟩, ⟨l1, l2⟩, h3, hP⟩ := brB_iff.1 hs
  have HIN := Lib.hid (fun s => bA_in hP s ps.length (Nat.le_refl _))
  obtain ⟨A, c, rfl, _, _, _⟩ := hv.open_
  obtain ⟨B, rfl⟩ := Int.eq_ofNat_of_zero_le (show 0 ≤ bl by omega)
  clear hv hs hP
  go_enter Tryz.func8, Tryz.ntmps8
  have HK := Lib.hid (bx1 w 26 #[.int .i64 (S : Int), .int .i64 (B : Int), .slice A ps.length c])
  go_wp2_with fail
  refine (H1.out _ (by go_grown)).mono ?_
  rintro e w1 ⟨rfl, hb1⟩
  rw [HB.out]
  have J := Lib.hid (HK.out.below hb1)
  have q0 := J.out.cell 0 rfl
  have q1 := J.out.cell 1 rfl
  have q2 := J.out.cell 2 rfl
  have HB1 := Lib.hid (show Below w.heap.size w w1 from Below.trans (by go_grown) (hb1.mono (by first | (simp; done) | (simp; omega))))
  clear hb1 HK
  go_wp2_with fail
  refine (H2.out _ HB1.out).mono ?_
  rintro e w2 ⟨g, rfl, hba, hb2⟩
  have HBA := Lib.hid hba
  have HB2 := Lib.hid (HB1.out.trans (hb2.mono HB1.out.size))
  have J2 := Lib.hid (J.out.below hb2)
  clear hba hb2 q0 q1 q2 J
  go_wp2_with fail
  go_loopw [3, 15] (fun x3 a wr => ∃ i : Nat, i ≤ S ∧ a = .int .i64 (i : Int) ∧ wr.ownsRow w2.heap.size 9 1 x3 (stsL ps i).length (X64 (stsL ps i)) ∧ Hid (Below w2.heap.size w2 wr)) (fun _ a _ => S - (intOf a).toNat)
  case atStart => exact ⟨0, by omega, by go_num, World.ownsRow_nil _ _ _ _, Lib.hid (Below.refl _ _)⟩
  case round =>
    obtain ⟨i, hi, rfl, hown, hB⟩ := hrel
    obtain ⟨wi, rfl⟩ : ∃ y : World, y = wr := ⟨_, rfl⟩
    have HO := Lib.hid hown
    by_cases hlt : i < S
    · have i1 : (i : Int) < (S : Int) := by omega
      obtain ⟨u, hu, huo, _, _, hgl, _⟩ := (HBA.out.below hB.out).at_ hlt
      obtain ⟨Au, Cu, rfl⟩ := own_form huo
      obtain ⟨A3, c3, e3, hac3, hac3', HA3⟩ := (Sl.of_own huo).open_
      injection e3 with e31 _ e33
      subst e31 e33
      obtain ⟨r, hr⟩ : ∃ r, r = bA ps i ps.length := ⟨_, rfl⟩
      have hri : ∀ x ∈ r, 0 ≤ x ∧ x ≤ 7 := fun x hx => by have := HIN.out i x (by rw [← hr]; exact hx); omega
      have hrl : r.length ≤ 128 := by rw [hr]; have := bA_length ps i ps.length; omega
      have HR := Lib.hid hr
      have HRI := Lib.hid hri
      simp only [← hr] at hac3 HA3 hu ⊢
      clear hown huo hr hri
      go_wp2_with fail
      go_loopw [6, 21] (fun a6 a wr => ∃ k : Nat, k ≤ r.length ∧ a = .int .i64 (k : Int) ∧ a6 = .string (bT ((r.take k).map ltB)) ∧ wi = wr) (fun _ a _ => r.length - (intOf a).toNat)
      case atStart => exact ⟨0, by omega, by go_num, rfl, rfl⟩
      case round =>
        obtain ⟨k, hk, rfl, rfl, hw⟩ := hrel
        subst hw
        by_cases hk2 : k < r.length
        · have i2 : (k : Int) < (r.length : Int) := by omega
          obtain ⟨ba, oa, rfl, hba, hca⟩ := HA3.out k hk2
          obtain ⟨x, hx⟩ : ∃ x, x = ix r k := ⟨_, rfl⟩
          have q0 : wi.cell? ⟨ba, oa + k, none⟩ = some (.int .i64 x) := by rw [hx]; exact hca k hk2
          obtain ⟨x0, x1⟩ := HRI.out x (by rw [hx]; exact ix_mem hk2)
          obtain ⟨eW, eU⟩ := lt_conv x0 x1
          obtain ⟨E, hE⟩ : ∃ E, E = bT [ltB x] := ⟨_, rfl⟩
          rw [← hE] at eU
          have hEs : E.size = 1 := by rw [hE]; rfl
          obtain ⟨t, ht⟩ : ∃ t, t = bT ((r.take k).map ltB) := ⟨_, rfl⟩
          have hts : t.size ≤ 128 := by rw [ht, bT_size, List.length_map, List.length_take]; omega
          have HT := Lib.hid (show bT ((r.take (k + 1)).map ltB) = t ++ E by
            rw [List.take_succ_eq_append_getElem hk2, List.map_append, bT_app, ht, hE, hx, ix_eq hk2]; rfl)
          have n1 : ¬ 9223372036854775807 < t.size + E.size := by omega
          have n2 : ¬ 9223372036854775807 < t.size + 1 := by omega
          rw [← ht]
          clear hca hx hE ht hts
          go_wp2_with fail
          go_roundw
          case rel => exact ⟨k + 1, by omega, by go_num, by rw [HT.out], trivial⟩
          case measure => simp [intOf]; omega
        · obtain rfl : k = r.length := by omega
          rw [List.take_length]
          have HS := Lib.hid (stsL_succ ps i)
          have hll : (stsL ps i).length ≤ 134217728 := by rw [stsL_length]; omega
          have zw := hB.out.size
          by_cases he : r = []
          · have HST := Lib.hid (show stL ps i = [45] by rw [stL, rowL, ← HR.out, he]; rfl)
            have e0 : bT (r.map ltB) = ⟨#[]⟩ := by rw [he]; rfl
            rw [e0]
            clear e0
            go_wp2_with (at_builtin; refine wpList_appX rfl _ _ rfl w2.heap.size u3 (stsL ps i) rfl HO.out [45] wi.heap.size rfl rfl hll zw ?_; intro v6 w6 ho6 hb6 hg6; have HO6 := Lib.hid ho6; have HB6 := Lib.hid hb6; clear ho6 hb6 hg6)
            go_roundw
            case rel => exact ⟨i + 1, by omega, by go_num, by rw [HS.out, HST.out]; exact HO6.out, Lib.hid (hB.out.trans HB6.out)⟩
            case measure => simp [intOf]; omega
          · have HST := Lib.hid (show stL ps i = r.map ltB by rw [stL, rowL, ← HR.out, if_neg (by simpa using he)])
            have n1 : (bT (r.map ltB)).toList.isEmpty = false := by rw [Lib.toList_data]; simp [bT, he]
            clear he
            go_wp2_with (at_builtin; refine wpList_appX rfl _ _ rfl w2.heap.size u3 (stsL ps i) rfl HO.out (r.map ltB) wi.heap.size rfl rfl hll zw ?_; intro v6 w6 ho6 hb6 hg6; have HO6 := Lib.hid ho6; have HB6 := Lib.hid hb6; clear ho6 hb6 hg6)
            go_roundw
            case rel => exact ⟨i + 1, by omega, by go_num, by rw [HS.out, HST.out]; exact HO6.out, Lib.hid (hB.out.trans HB6.out)⟩
            case measure => simp [intOf]; omega
    · obtain rfl : i = S := by omega
      have J3 := J2.out.below hB.out
      have q1 := J3.cell 1 rfl
      have HJn := Lib.hid (Join_own u3 (stsL ps i) wi HO.out (by rw [stsL_length]; omega) (jn_le ps (by omega) (by omega)))
      have hjl := jn_le ps (n := i) (by omega) (by omega)
      have hdl := dec_le (n := B) (by omega)
      obtain ⟨A3, c3, rfl⟩ := own_form hown
      clear hown
      obtain ⟨D, hD⟩ : ∃ D, D = Lib.decDigits B := ⟨_, rfl⟩
      obtain ⟨Jo, hJo⟩ : ∃ Jo, Jo = Lib.join (stsL ps i) [46] := ⟨_, rfl⟩
      have HDec := Lib.hid (fun w => Decimal_any B (by omega) w)
      rw [← hJo] at HJn hjl
      rw [← hD] at HDec hdl
      have HTX := Lib.hid (show bT (txL (B : Int) ps i) = bT D ++ ⟨#[58]⟩ ++ bT Jo by rw [txL, hD, hJo, bT_app, bT_app]; rfl)
      have z1 : (bT D).size = D.length := bT_size D
      have z2 : (bT Jo).size = Jo.length := bT_size Jo
      obtain ⟨bD, hbD⟩ : ∃ bD, bD = bT D := ⟨_, rfl⟩
      obtain ⟨bJ, hbJ⟩ : ∃ bJ, bJ = bT Jo := ⟨_, rfl⟩
      rw [← hbD] at HDec HTX z1
      rw [← hbJ] at HJn HTX z2
      have y1 : bD.size ≤ 100 := by omega
      have y2 : bJ.size ≤ 1000000 := by omega
      have n1 : ¬ 9223372036854775807 < bD.size + 1 := by omega
      have n2 : ¬ 9223372036854775807 < bD.size + 1 + bJ.size := by omega
      clear z1 z2 hbD hbJ hD hJo hdl hjl
      go_wp2_with fail
      refine (HDec.out _).mono ?_
      rintro e w' ⟨rfl, rfl⟩
      go_wp2_with fail
      refine HJn.out.mono ?_
      rintro e w5 ⟨rfl, hb5⟩
      have HB5 := Lib.hid (HB2.out.trans ((hB.out.mono HB2.out.size).trans (hb5.mono (by have := HB2.out.size; have := hB.out.size; omega))))
      clear hb5
      go_wp2_with fail
      go_ret
      exact ⟨by rw [HTX.out]; rfl, HB5.out⟩
end Go.Proofs.YtgaohmbgjjhdbaaGreatDoor
