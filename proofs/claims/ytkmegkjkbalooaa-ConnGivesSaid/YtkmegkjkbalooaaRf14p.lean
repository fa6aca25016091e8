/-
  polliwogref14: Request.
-/
import Derived.Test.YtkmegkjkbalooaaRe14
import Derived.Test.YtkmegkjkbalooaaCnI
import Derived.Test.YtkmegkjkbalooaaRef13b
import Derived.RegionTactic
import Derived.ChangeAlike
import Derived.Deep.RegionLaw
import Derived.Deep.QuietTactic
import Derived.BigQuiet
import Derived.StillTailTactics
import Derived.Deep.DeepCutAuto
import Derived.Deep.CutBlock
namespace Go.Proofs.Ytkmegkjkbalooaa
open Go.RowKit

/-- The post of Request. -/
def RPost3 (K : Nat → Prop) (n : Nat) (y : Cn.SR) (err : Int) (w : World) (e : Ending) (w' : World) : Prop := ∃ P, e = .returned (.tuple #[rcV y.1, rrV P y.2, .int .i64 err]) ∧ RIn K n w' P y.2 ∧ Touch (OfAct K) w w'
def RP.nil : RP := ⟨none, 0, none, 0⟩
theorem RIn.nil {K : Nat → Prop} {w : World} (h : ∀ k, K k → k < w.heap.size) : RIn K 0 w RP.nil Cn.r0 := ⟨h, Sl.nil _ _, Sl.nil _ _, (fun _ e => nomatch e), (fun _ e => nomatch e), Nat.le_refl _, Nat.le_refl _⟩

end Go.Proofs.Ytkmegkjkbalooaa
