/-
  polliwoglaw04: the fixed fact.
-/
import Derived.Test.YtfieckhhckfjiaaRingWInt
namespace Go.Proofs.Ytfieckhhckfjiaa
open Go.RowKit

set_option maxHeartbeats 1000000 in
theorem awake04_any (w : World) : Calls Try.prog 11 #[] w fun e w' => e = .returned (.bool true) ∧ Fresh w w' := by
  go_enter Try.func11, Try.ntmps11
  go_wp2_with fail
  refine (ownInt_new 2 2 (by show _ = _; decide) w w (Touch.refl _ w)).mono ?_
  rintro e w1 ⟨rfl, h1⟩
  go_wp2_with fail
  refine (ownInt_put _ _ _ 5 _ _ h1).mono ?_
  rintro e w2 ⟨rfl, h2⟩
  have H2 : OwnInt w w2 w.heap.size 2 [5] := h2
  clear h1 h2
  go_wp2_with fail
  refine (ownInt_put _ _ _ 6 _ _ H2).mono ?_
  rintro e w3 ⟨rfl, h3⟩
  have H3 : OwnInt w w3 w.heap.size 2 [5, 6] := h3
  clear H2 h3
  go_wp2_with fail
  refine (ownInt_put _ _ _ 7 _ _ H3).mono ?_
  rintro e w4 ⟨rfl, h4⟩
  have H4 : OwnInt w w4 w.heap.size 2 [5, 6] := h4
  clear H3 h4
  go_wp2_with fail
  refine (ownInt_take _ _ _ _ _ H4).mono ?_
  rintro e w5 ⟨rfl, h5⟩
  have H5 : OwnInt w w5 w.heap.size 2 [6] := h5
  clear H4 h5
  go_wp2_with fail
  refine (ownInt_len _ _ _ _ _ H5).mono ?_
  rintro e w6 ⟨rfl, rfl⟩
  go_wp2_with fail
  refine (ownInt_room _ _ _ _ _ H5).mono ?_
  rintro e w7 ⟨rfl, h7⟩
  have H7 := Lib.hid h7
  clear H5 h7
  go_wp2
  go_ret
  exact ⟨rfl, H7.out.fresh⟩
end Go.Proofs.Ytfieckhhckfjiaa
