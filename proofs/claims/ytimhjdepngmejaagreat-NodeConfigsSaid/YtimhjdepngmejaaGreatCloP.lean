/-
  slices.Clone of units.
-/
import Derived.Test.YtimhjdepngmejaaGreatCn
import Derived.Lib.SliceRun
import Derived.RegionTactic
import Derived.ChangeAlike
namespace Go.Proofs.YtimhjdepngmejaaGreat
open Go.RowKit

set_option maxHeartbeats 1000000 in
theorem clonePdu_any (A : Option Addr) (c : Nat) (l : List Cn.Pd) (w : World) (h : Rd pduE w A c l) (hl : l.length ≤ 1000000) :
    Calls Tryz.prog 43 #[.slice A l.length c] w fun e w' => ∃ A' c', e = .returned (.slice A' l.length c') ∧ Sl pduE w' A' c' l ∧ Fresh w w' ∧ ∀ ad, A' = some ad → w.heap.size ≤ ad.block := by
  cases A with
  | none =>
    have h0 := h.2.2.1 rfl
    subst h0
    have : l = [] := List.eq_nil_of_length_eq_zero (by have := h.1; omega)
    subst this
    have hz := fun w => Lib.run_eql_slice_nil (P := Tryz.prog) w 58 67 none 0 0 0 0 Tryz.underlying58
    go_enter Tryz.func43, Tryz.ntmps43
    go_wp2
    go_ret
    exact ⟨none, 0, rfl, Sl.nil _ _, Touch.refl _ _, fun _ h => by cases h⟩
  | some ad =>
    have H := Lib.hid h
    clear h
    have hz := fun w => Lib.run_eql_slice_nil (P := Tryz.prog) w 58 67 (some ad) l.length c 0 0 Tryz.underlying58
    go_enter Tryz.func43, Tryz.ntmps43
    go_wp2_with (refine app_pdu rfl rfl (l := []) (l2 := l) rfl rfl (Sl.lit pduE w _ rfl _ _ rfl _ rfl (by decide)) (H.out.alloc _) (by simp; omega) ?_; intro A2 c2 L2 w2 hL2 hs2 ht2 hA2)
    go_ret
    have e : L2 = l := hL2.out
    subst e
    refine ⟨A2, c2, rfl, hs2, (((Touch.refl _ w).alloc _).trans ht2 (fun k hk e => by simp at e; omega)), fun ad ha => ?_⟩
    subst ha
    rcases hA2 with e | e <;> (simp at e; omega)
end Go.Proofs.YtimhjdepngmejaaGreat
