/-
  slices.SortFunc at spans, of a nil slice: nothing is done.
-/
import Derived.Test.YtajdnllkkekmnaaLay
import Derived.Test.YtajdnllkkekmnaaSpanE
namespace Go.Proofs.Ytajdnllkkekmnaa
open Go.RowKit Go.Shelf Go.Lib

theorem ins_none (w : World) : Calls Try.prog 73 #[.slice none 0 0, .int .i64 0, .int .i64 0, .func (.func 54) #[] #[]] w fun e w' => e = .returned (.tuple #[]) ∧ w' = w := by
  go_enter Try.func73, Try.ntmps73
  go_wp2_with fail
  go_loopw [8] (fun i wr => i = .int .i64 1 ∧ wr = w) (fun _ _ => 0)
  case atStart => exact ⟨rfl, rfl⟩
  case round =>
    obtain ⟨rfl, rfl⟩ := hrel
    go_wp2
    go_end0
    exact ⟨rfl, rfl⟩

theorem pdq_none (w : World) : Calls Try.prog 66 #[.slice none 0 0, .int .i64 0, .int .i64 0, .int .i64 0, .func (.func 54) #[] #[]] w fun e w' => e = .returned (.tuple #[]) ∧ w' = w := by
  go_enter Try.func66, Try.ntmps66
  go_wp2_with fail
  go_loopw [1, 2, 3] (fun a b l wr => a = .int .i64 0 ∧ b = .int .i64 0 ∧ l = .int .i64 0 ∧ wr = w) (fun _ _ _ _ => 0)
  case atStart => exact ⟨rfl, rfl, rfl, rfl⟩
  case round =>
    obtain ⟨rfl, rfl, rfl, rfl⟩ := hrel
    go_wp2_with fail
    refine (ins_none _).mono ?_
    rintro e w2 ⟨rfl, rfl⟩
    go_wp2
    refine bodyPost_ret (results_none rfl _ _ _) rfl ?_
    exact ⟨rfl, rfl⟩

theorem sort_none (w : World) : Calls Try.prog 53 #[.slice none 0 0, .func (.func 54) #[] #[]] w fun e w' => e = .returned (.tuple #[]) ∧ w' = w := by
  have hlen : ∀ W, Calls Try.prog 50 #[.int .u64 0] W fun e w' => e = .returned (.int .i64 0) ∧ w' = W := fun W => (Any.bits_Len Try.bitsLen2 0 W (by omega) (by omega)).mono fun _ _ h => ⟨h.1.trans (by rw [show (Lib.bitLen (0 : Int).toNat) = 0 by decide]; rfl), h.2⟩
  go_enter Try.func53, Try.ntmps53
  go_wp2_with fail
  refine (hlen _).mono ?_
  rintro e w2 ⟨rfl, rfl⟩
  go_wp2_with fail
  refine (pdq_none _).mono ?_
  rintro e w2 ⟨rfl, rfl⟩
  go_wp2
  go_end0
  exact ⟨rfl, rfl⟩
end Go.Proofs.Ytajdnllkkekmnaa
