/- Quarters: what DrawQuarterRun draws. -/
import Derived.Test.YtmjpjechmojkeaaDr
import Derived.Test.YtmjpjechmojkeaaChQ
namespace Go.Proofs.Ytmjpjechmojkeaa
open Go.RowKit

set_option maxHeartbeats 2000000 in
theorem DrawQuarterRun_any (v : Value) (bs : List Int) (W : World) (hv : SlB W v bs) :
    Calls Try.prog 22 #[v] W fun e w' => ∃ a b c : Int, e = .returned (.tuple #[.int .i64 a, .int .i64 b, .int .i64 c]) ∧ Below W.heap.size W w' := by
  have HV := Lib.hid (fun w (hb : Below W.heap.size W w) => l00From_any v bs w (hv.below hb))
  clear hv
  go_enter Try.func22, Try.ntmps22
  go_wp2_with fail
  refine (HV.out _ (by go_grown)).mono ?_
  rintro e w1 ⟨rfl, hs⟩
  go_wp2_with fail
  refine (pick_any W w1 _ v bs 0 hs (by omega) _ (by omega)).mono ?_
  rintro e w2 ⟨x1, hx1, rfl, hs2, hg⟩
  clear hg hs
  go_wp2_with fail
  refine (pick_any W w2 _ v bs _ hs2 (by omega) _ (by omega)).mono ?_
  rintro e w3 ⟨x2, hx2, rfl, hs3, hg⟩
  clear hg hs2
  go_wp2_with fail
  refine (pick_any W w3 _ v bs _ hs3 (by omega) _ (by omega)).mono ?_
  rintro e w4 ⟨x3, hx3, rfl, hs4, hg⟩
  clear hg hs3
  go_wp2_with fail
  refine (pick_any W w4 _ v bs _ hs4 (by omega) _ (by omega)).mono ?_
  rintro e w5 ⟨x4, hx4, rfl, hs5, hg⟩
  clear hg hs4
  go_wp2_with fail
  refine (one_any W w5 _ v bs _ hs5 (by omega) _ (by omega)).mono ?_
  rintro e w6 ⟨x5, rfl, hs6, hg⟩
  clear hg hs5
  have z := hs6.lt
  have HS := Lib.hid hs6
  clear hs6
  cases x5 with
  | false =>
    go_wp2
    go_ret3
    exact ⟨_, _, _, rfl, HS.out.old⟩
  | true =>
    go_wp2_with fail
    refine (among_any W _ _ v bs _ (HS.out.below (by go_grown)) (by omega) w6.heap.size [-1, 0, 400, 401] 4 (by decide) (by omega) (by decide) (by decide) ?_ (by simp)).mono ?_
    · intro j hj
      have hj' : j < 4 := hj
      rcases (show j = 0 ∨ j = 1 ∨ j = 2 ∨ j = 3 by omega) with rfl | rfl | rfl | rfl <;> simp [go_sem, ix]
    rintro e w7 ⟨x6, hx6, rfl, hs7, hg⟩
    have HS7 := Lib.hid hs7
    clear hg hs7 hx6
    go_wp2
    go_ret3
    exact ⟨_, _, _, rfl, HS7.out.old⟩
end Go.Proofs.Ytmjpjechmojkeaa
