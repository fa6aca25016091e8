/-
  wire.Wire: New, Pack, Open, Sound, Size.
-/
import Derived.Test.YtpifgpmjnjbecaaDoorPar6
import Derived.Test.YtpifgpmjnjbecaaDoorFrm
namespace Go.Proofs.YtpifgpmjnjbecaaDoor
open Go.RowKit

theorem tab_one : Wh.TAB.toArray.all (·.oneCell') = true := by
  rw [Array.all_eq_true_iff_forall_mem]
  intro v hv
  exact oneTab v (by simpa using hv)
theorem tab_size : Wh.TAB.toArray.size = 256 := by kernel_rfl
theorem tab_fold : Array.foldl (fun (cs : Array Value) (x : Value × Nat) => cs.setIfInBounds x.snd x.fst) Tryd.zeroCells55 Wh.TAB.toArray.zipIdx 0 256 = Wh.TAB.toArray := by kernel_rfl
theorem wnew_core (T : Array Value) (hT : T.size = 256) (hfold : Array.foldl (fun (cs : Array Value) (x : Value × Nat) => cs.setIfInBounds x.snd x.fst) Tryd.zeroCells55 T.zipIdx 0 256 = T)
    (w : World) (hm : ∀ W, Calls Tryd.prog 5 #[] W fun e w' => e = .returned (.agg T) ∧ Fresh W w') :
    Calls Tryd.prog 4 #[] w fun e w' => ∃ w1, e = .returned (.pointer (some ⟨w1.heap.size, 0, none⟩)) ∧ w' = w1.alloc (.cells T 55) ∧ Fresh w w1 := by
  have HM := Lib.hid hm
  have HFO := Lib.hid hfold
  clear hm hfold
  go_enter Tryd.func4, Tryd.ntmps4
  go_wp2_with (go_at_call 5; refine (HM.out _).mono ?_; rintro e w1 ⟨rfl, hf1⟩; have HF := Lib.hid hf1; clear hf1)
  exact bodyPost_ret (v := .pointer (some ⟨w1.heap.size, 0, none⟩)) (by simp [results, Tryd.results4, go_sem]) rfl ⟨w1, rfl, by rw [HFO.out], HF.out⟩
theorem wnew_any (w : World) : Calls Tryd.prog 4 #[] w fun e w' => ∃ g, e = .returned (.pointer (some ⟨g, 0, none⟩)) ∧ Wh.Tab w' g ∧ Fresh w w' := by
  refine (wnew_core Wh.TAB.toArray tab_size tab_fold w make_any).mono ?_
  rintro e w' ⟨w1, rfl, rfl, hf⟩
  exact ⟨w1.heap.size, rfl, ⟨_, Blk.new w1 _ _⟩, hf.trans ((Touch.refl _ _).alloc _) (fun _ _ h => h)⟩
end Go.Proofs.YtpifgpmjnjbecaaDoor
