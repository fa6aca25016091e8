/-
  slices.SortFunc at spans, of a nil slice: nothing is done.
-/
import Derived.Test.YtajdnllkkekmnaaGreatLay
import Derived.Test.YtajdnllkkekmnaaGreatSpanE
namespace Go.Proofs.YtajdnllkkekmnaaGreat
open Go.RowKit Go.Shelf Go.Lib

theorem ins_none (w : World) : Calls Tryz.prog 99 #[.slice none 0 0, .int .i64 0, .int .i64 0, .func (.func 80) #[] #[]] w fun e w' => e = .returned (.tuple #[]) ∧ w' = w := by
  go_enter Tryz.func99, Tryz.ntmps99
  go_wp2_with fail
  go_loopw [8] (fun i wr => i = .int .i64 1 ∧ wr = w) (fun _ _ => 0)
  case atStart => exact ⟨rfl, rfl⟩
  case round =>
    obtain ⟨rfl, rfl⟩ := hrel
    go_wp2
    go_end0
    exact ⟨rfl, rfl⟩

theorem pdq_none (w : World) : Calls Tryz.prog 92 #[.slice none 0 0, .int .i64 0, .int .i64 0, .int .i64 0, .func (.func 80) #[] #[]] w fun e w' => e = .returned (.tuple #[]) ∧ w' = w := by
  go_enter Tryz.func92, Tryz.ntmps92
  go_wp2_with fail
  go_loopw [1, 2, 3] (fun a b l wr => a = .int .i64 0 ∧ b = .int .i64 0 ∧ l = .int .i64 0 ∧ wr = w) (fun _ _ _ _ => 0)
  case atStart => exact ⟨rfl, rfl, rfl, rfl⟩
  case round =>
    obtain ⟨rfl, rfl, rfl, rfl⟩ := hrel
    go_wp2_with fail
    refine (ins_none _).mono ?_
    rintro e w2 ⟨rfl, rfl⟩
    go_wp2
    refine bodyPost_ret (results_none rfl _ _ _) rfl ?_
    exact ⟨rfl, rfl⟩

theorem sort_none (w : World) : Calls Tryz.prog 79 #[.slice none 0 0, .func (.func 80) #[] #[]] w fun e w' => e = .returned (.tuple #[]) ∧ w' = w := by
  have hlen : ∀ W, Calls Tryz.prog 76 #[.int .u64 0] W fun e w' => e = .returned (.int .i64 0) ∧ w' = W := fun W => (Any.bits_Len Tryz.bitsLen2 0 W (by omega) (by omega)).mono fun _ _ h => ⟨h.1.trans (by rw [show (Lib.bitLen (0 : Int).toNat) = 0 by decide]; rfl), h.2⟩
  go_enter Tryz.func79, Tryz.ntmps79
  go_wp2_with fail
  refine (hlen _).mono ?_
  rintro e w2 ⟨rfl, rfl⟩
  go_wp2_with fail
  refine (pdq_none _).mono ?_
  rintro e w2 ⟨rfl, rfl⟩
  go_wp2
  go_end0
  exact ⟨rfl, rfl⟩
end Go.Proofs.YtajdnllkkekmnaaGreat
