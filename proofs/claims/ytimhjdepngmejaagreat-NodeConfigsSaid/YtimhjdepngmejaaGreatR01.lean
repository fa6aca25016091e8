/-
  polliwogref01: Of, To.
-/
import Derived.Test.YtimhjdepngmejaaGreatRows
import Derived.Test.YtimhjdepngmejaaGreatMem
import Derived.Deep.DeepCutAuto
import Derived.Deep.QuietTactic
import Derived.BigQuiet
namespace Go.Proofs.YtimhjdepngmejaaGreat
open Go.RowKit

theorem r01of_any (x : Int) (w : World) : Calls Tryz.prog 35 #[.int .i64 x] w fun e w' => e = .returned (.int .i64 (x % 16777216)) ∧ w' = w := by
  obtain ⟨r, hr⟩ : ∃ r : Int, x.tmod 16777216 = r := ⟨_, rfl⟩
  have h1 := Int.tmod_lt_of_pos x (show (0 : Int) < 16777216 by decide)
  have h2 := Int.tmod_lt_of_pos (-x) (show (0 : Int) < 16777216 by decide)
  rw [Int.neg_tmod] at h2
  have h3 := Int.mul_tdiv_add_tmod x 16777216
  rw [hr] at h1 h2 h3
  by_cases hn : r < 0
  · have HR : Hid (x % 16777216 = r + 16777216) := by unfold Hid; omega
    clear h3
    go_enter Tryz.func35, Tryz.ntmps35
    go_wp2
    go_ret
    exact ⟨by rw [HR.out]; rfl, rfl⟩
  · have HR : Hid (x % 16777216 = r) := by unfold Hid; omega
    clear h3
    go_enter Tryz.func35, Tryz.ntmps35
    go_wp2
    go_ret
    exact ⟨by rw [HR.out]; rfl, rfl⟩

theorem r01to_any (a b : Int) (w : World) : Calls Tryz.prog 249 #[.int .i64 a, .int .i64 b] w fun e w' => e = .returned (.int .i64 ((b - a) % 16777216)) ∧ w' = w := by
  have h3 := r01of_any (b % 16777216 - a % 16777216)
  rw [show (b % 16777216 - a % 16777216) % 16777216 = (b - a) % 16777216 by omega] at h3
  have H3 := Lib.hid h3
  clear h3
  have hb1 : 0 ≤ a % 16777216 ∧ a % 16777216 < 16777216 := by omega
  have hb2 : 0 ≤ b % 16777216 ∧ b % 16777216 < 16777216 := by omega
  have HA := Lib.hid (r01of_any a)
  have HB := Lib.hid (r01of_any b)
  generalize a % 16777216 = a1 at *
  generalize b % 16777216 = b1 at *
  go_enter Tryz.func249, Tryz.ntmps249
  go_wp2_with fail
  refine (HB.out w).mono ?_
  rintro e w2 ⟨rfl, rfl⟩
  simp only
  go_wp2_with fail
  refine (HA.out w2).mono ?_
  rintro e w3 ⟨rfl, rfl⟩
  simp only
  go_wp2_with fail
  refine (H3.out w3).mono ?_
  rintro e w4 ⟨rfl, rfl⟩
  simp only
  go_wp2
  go_ret
  exact ⟨rfl, rfl⟩
end Go.Proofs.YtimhjdepngmejaaGreat
