/-
  ConnGives: what isn't answered goes out as often as was said, then it is given up. No conditions.
-/
import Derived.Test.YtkmegkjkbalooaaGv0
import Derived.Test.YtkmegkjkbalooaaGv1
import Derived.Test.YtkmegkjkbalooaaGv2
import Derived.Test.YtkmegkjkbalooaaGv3
namespace Go.Proofs.Ytkmegkjkbalooaa
open Go.RowKit Go.Shelf

/-- The law's walk. -/
theorem connGives.walk (n0 how late : Int) (W : World) (h0 : (Lit.int .i64 n0).wf = true) (_ : (Lit.int .i64 how).wf = true) (_ : (Lit.int .i64 late).wf = true) :
    Calls Try.prog 5 #[.int .i64 n0, .int .i64 how, .int .i64 late] W fun e w' => e = .returned (.bool true) ∧ Below W.heap.size W w' := by
  have e3 : bits .and .i64 how 3 = how % 4 := and_mask how 2 3 rfl (by omega)
  rcases (show how % 4 = 0 ∨ how % 4 = 1 ∨ how % 4 = 2 ∨ how % 4 = 3 by omega) with h | h | h | h
  · exact gives0 n0 how late W h0 (by rw [e3, h])
  · exact gives1 n0 how late W h0 (by rw [e3, h])
  · exact gives2 n0 how late W h0 (by rw [e3, h])
  · exact gives3 n0 how late W h0 (by rw [e3, h])
end Go.Proofs.Ytkmegkjkbalooaa
