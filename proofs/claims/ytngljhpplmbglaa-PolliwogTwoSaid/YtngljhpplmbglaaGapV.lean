/-
  How many numbers pairs have. No walk.
-/
import Derived.Test.YtngljhpplmbglaaRows
namespace Go.Proofs.Ytngljhpplmbglaa

namespace Gp
/-- How many numbers one pair has. -/
def pv (a b : Int) : Int := if (b - a) % 16777216 ≤ 8388608 then (b - a) % 16777216 else 0
def gc (l : List Int) : Nat → Int
  | 0 => 0
  | k + 1 => gc l k + pv (l.getD (2 * k) 0) (l.getD (2 * k + 1) 0)
theorem pv_bd (a b : Int) : 0 ≤ pv a b ∧ pv a b ≤ 8388608 := by
  unfold pv
  split <;> omega
theorem gc_bd (l : List Int) (k : Nat) : 0 ≤ gc l k ∧ gc l k ≤ 8388608 * k := by
  induction k with
  | zero => simp [gc]
  | succ k ih =>
    have := pv_bd (l.getD (2 * k) 0) (l.getD (2 * k + 1) 0)
    simp only [gc]
    omega
end Gp
end Go.Proofs.Ytngljhpplmbglaa
