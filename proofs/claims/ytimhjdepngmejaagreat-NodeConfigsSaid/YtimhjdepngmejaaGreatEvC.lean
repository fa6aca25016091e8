/-
  event.Request.Check: requests that may be made. No conditions.
-/
import Derived.Test.YtimhjdepngmejaaGreatTy
namespace Go.Proofs.YtimhjdepngmejaaGreat
open Go.RowKit

/-- A request that may be. -/
def Ev.ok (k : Int) (d : ByteArray) (n : Int) : Prop := ((k = 1 ∨ k = 3 ∨ k = 4) ∧ d.size ≤ 64 ∧ n = 0) ∨ ((k = 7 ∨ k = 8 ∨ k = 9) ∧ d.size ≤ 200 ∧ n = 0) ∨ ((k = 2 ∨ k = 5 ∨ k = 6 ∨ k = 11) ∧ d = ByteArray.empty ∧ n = 0) ∨ (k = 10 ∧ d = ByteArray.empty ∧ 1 ≤ n ∧ n ≤ 64)
set_option maxHeartbeats 4000000 in
theorem evcheck_ok (k : Int) (d : ByteArray) (n : Int) (w : World) (h : Ev.ok k d n) :
    Calls Tryz.prog 37 #[.agg #[.int .i64 k, .string d, .int .i64 n]] w fun e w' => e = .returned (.int .i64 0) ∧ Fresh w w' := by
  rcases h with ⟨hk, hd, rfl⟩ | ⟨hk, hd, rfl⟩ | ⟨hk, rfl, rfl⟩ | ⟨rfl, rfl, hn1, hn2⟩
  · have h1 : ¬ (64 : Int) < (d.size : Int) := by omega
    have HF : Hid (Fresh w (w.alloc (.cells #[.int .i64 k, .string d, .int .i64 0] 64))) := (Touch.refl _ _).alloc _
    rcases hk with rfl | rfl | rfl
    all_goals
      go_enter Tryz.func37, Tryz.ntmps37
      go_wp2
      go_ret
      exact ⟨rfl, by first | exact Touch.refl _ _ | exact HF.out⟩
  · have h1 : ¬ (200 : Int) < (d.size : Int) := by omega
    have HF : Hid (Fresh w (w.alloc (.cells #[.int .i64 k, .string d, .int .i64 0] 64))) := (Touch.refl _ _).alloc _
    rcases hk with rfl | rfl | rfl
    all_goals
      go_enter Tryz.func37, Tryz.ntmps37
      go_wp2
      go_ret
      exact ⟨rfl, by first | exact Touch.refl _ _ | exact HF.out⟩
  · have HF : Hid (Fresh w (w.alloc (.cells #[.int .i64 k, .string ByteArray.empty, .int .i64 0] 64))) := (Touch.refl _ _).alloc _
    rcases hk with rfl | rfl | rfl | rfl
    all_goals
      go_enter Tryz.func37, Tryz.ntmps37
      go_wp2
      go_ret
      exact ⟨rfl, by first | exact Touch.refl _ _ | exact HF.out⟩
  · have HF : Hid (Fresh w (w.alloc (.cells #[.int .i64 10, .string ByteArray.empty, .int .i64 n] 64))) := (Touch.refl _ _).alloc _
    have h1 : ¬ n < 1 := by omega
    have h2 : ¬ (64 : Int) < n := by omega
    go_enter Tryz.func37, Tryz.ntmps37
    go_wp2
    go_ret
    exact ⟨rfl, by first | exact Touch.refl _ _ | exact HF.out⟩
end Go.Proofs.YtimhjdepngmejaaGreat
