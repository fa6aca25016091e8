/-
  ConnTwo: the law's walk, its arguments opened. No conditions.
-/
import Derived.Test.YtkmegkjkbalooaaConnTwo
import Derived.Test.YtkmegkjkbalooaaOpen
namespace Go.Proofs.Ytkmegkjkbalooaa
open Go.ChangeShapes Go.WideShapes Go.ChangeAt Go.RowKit

set_option maxRecDepth 10000 in
theorem connTwo.walk (v1 v2 : Value) (w : World) {H : Type} {enc : TypeId × Value → H} {b1 b2 : Nat} {d1 d2 : DataW H} {p1 p2 : List MemPlace} (hv1 : Value.okWide Try.prog w .any b1 22 v1) (k1 : DataW.Trod enc Try.prog w 0 (fun _ => true) true 22 v1 d1 p1) (hv2 : Value.okWide Try.prog w .any b2 23 v2) (k2 : DataW.Trod enc Try.prog w 0 (fun _ => true) true 23 v2 d2 p2) :
    Calls Try.prog 3 #[v1, v2] w fun e w' => e = .returned (.bool true) ∧ Below w.heap.size w w' := by
  obtain ⟨A, c, l, rfl, hr, _⟩ := open_rd_int hv1 k1
  obtain ⟨A2, c2, l2, rfl, hr2⟩ := open_rd_bool hv2 k2
  exact connTwo_dev hr hr2
end Go.Proofs.Ytkmegkjkbalooaa
