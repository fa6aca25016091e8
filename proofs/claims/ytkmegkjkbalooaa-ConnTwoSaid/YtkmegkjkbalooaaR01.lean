/-
  polliwogref01: Of, To.
-/
import Derived.Test.YtkmegkjkbalooaaRows
import Derived.Test.YtkmegkjkbalooaaMem
import Derived.Deep.DeepCutAuto
import Derived.Deep.QuietTactic
import Derived.BigQuiet
namespace Go.Proofs.Ytkmegkjkbalooaa
open Go.RowKit

theorem r01of_any (x : Int) (w : World) : Calls Try.prog 14 #[.int .i64 x] w fun e w' => e = .returned (.int .i64 (x % 16777216)) ∧ w' = w := by
  obtain ⟨r, hr⟩ : ∃ r : Int, x.tmod 16777216 = r := ⟨_, rfl⟩
  have h1 := Int.tmod_lt_of_pos x (show (0 : Int) < 16777216 by decide)
  have h2 := Int.tmod_lt_of_pos (-x) (show (0 : Int) < 16777216 by decide)
  rw [Int.neg_tmod] at h2
  have h3 := Int.mul_tdiv_add_tmod x 16777216
  rw [hr] at h1 h2 h3
  by_cases hn : r < 0
  · have HR : Hid (x % 16777216 = r + 16777216) := by unfold Hid; omega
    clear h3
    go_enter Try.func14, Try.ntmps14
    go_wp2
    go_ret
    exact ⟨by rw [HR.out]; rfl, rfl⟩
  · have HR : Hid (x % 16777216 = r) := by unfold Hid; omega
    clear h3
    go_enter Try.func14, Try.ntmps14
    go_wp2
    go_ret
    exact ⟨by rw [HR.out]; rfl, rfl⟩

end Go.Proofs.Ytkmegkjkbalooaa
