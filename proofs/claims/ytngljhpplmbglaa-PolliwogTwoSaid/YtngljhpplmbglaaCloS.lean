/-
  slices.Clone of strings.
-/
import Derived.Test.YtngljhpplmbglaaTy
import Derived.Lib.SliceRun
import Derived.RegionTactic
import Derived.ChangeAlike
namespace Go.Proofs.Ytngljhpplmbglaa
open Go.RowKit

set_option maxHeartbeats 1000000 in
theorem cloneStr_any (A : Option Addr) (c : Nat) (l : List ByteArray) (w : World) (h : Rd strE w A c l) (hl : l.length ≤ 1000000) :
    Calls Try.prog 39 #[.slice A l.length c] w fun e w' => ∃ A' c', e = .returned (.slice A' l.length c') ∧ Sl strE w' A' c' l ∧ Fresh w w' ∧ ∀ ad, A' = some ad → w.heap.size ≤ ad.block := by
  cases A with
  | none =>
    have h0 := h.2.2.1 rfl
    subst h0
    have : l = [] := List.eq_nil_of_length_eq_zero (by have := h.1; omega)
    subst this
    have hz := fun w => Lib.run_eql_slice_nil (P := Try.prog) w 22 9 none 0 0 0 0 Try.underlying22
    go_enter Try.func39, Try.ntmps39
    go_wp2
    go_ret
    exact ⟨none, 0, rfl, Sl.nil _ _, Touch.refl _ _, fun _ h => by cases h⟩
  | some ad =>
    have H := Lib.hid h
    clear h
    have hz := fun w => Lib.run_eql_slice_nil (P := Try.prog) w 22 9 (some ad) l.length c 0 0 Try.underlying22
    go_enter Try.func39, Try.ntmps39
    go_wp2_with (refine app_str rfl rfl (l := []) (l2 := l) rfl rfl (Sl.lit strE w _ rfl _ _ rfl _ rfl (by decide)) (H.out.alloc _) (by simp; omega) ?_; intro A2 c2 L2 w2 hL2 hs2 ht2 hA2)
    go_ret
    have e : L2 = l := hL2.out
    subst e
    refine ⟨A2, c2, rfl, hs2, (((Touch.refl _ w).alloc _).trans ht2 (fun k hk e => by simp at e; omega)), fun ad ha => ?_⟩
    subst ha
    rcases hA2 with e | e <;> (simp at e; omega)
end Go.Proofs.Ytngljhpplmbglaa
