/-
  slices.SortFunc at spans, of a nil slice: nothing is done.
-/
import Derived.Test.YtnenaemincfgpaaGreatLay
import Derived.Test.YtnenaemincfgpaaGreatSpanE
namespace Go.Proofs.YtnenaemincfgpaaGreat
open Go.RowKit Go.Shelf Go.Lib

theorem ins_none (w : World) : Calls Tryz.prog 171 #[.slice none 0 0, .int .i64 0, .int .i64 0, .func (.func 133) #[] #[]] w fun e w' => e = .returned (.tuple #[]) ∧ w' = w := by
 go_enter Tryz.func171, Tryz.ntmps171
 go_wp2_with fail
 go_loopw [8] (fun i wr => i = .int .i64 1 ∧ wr = w) (fun _ _ => 0)
 case atStart => exact ⟨rfl, rfl⟩
 case round =>
  obtain ⟨rfl, rfl⟩ := hrel
  go_wp2
  go_end0
  exact ⟨rfl, rfl⟩

theorem pdq_none (w : World) : Calls Tryz.prog 159 #[.slice none 0 0, .int .i64 0, .int .i64 0, .int .i64 0, .func (.func 133) #[] #[]] w fun e w' => e = .returned (.tuple #[]) ∧ w' = w := by
 go_enter Tryz.func159, Tryz.ntmps159
 go_wp2_with fail
 go_loopw [1, 2, 3] (fun a b l wr => a = .int .i64 0 ∧ b = .int .i64 0 ∧ l = .int .i64 0 ∧ wr = w) (fun _ _ _ _ => 0)
 case atStart => exact ⟨rfl, rfl, rfl, rfl⟩
 case round =>
  obtain ⟨rfl, rfl, rfl, rfl⟩ := hrel
  go_wp2_with fail
  refine (ins_none _).mono ?_
  rintro e w2 ⟨rfl, rfl⟩
  go_wp2
  refine bodyPost_ret (results_none rfl _ _ _) rfl ?_
  exact ⟨rfl, rfl⟩

theorem sort_none (w : World) : Calls Tryz.prog 132 #[.slice none 0 0, .func (.func 133) #[] #[]] w fun e w' => e = .returned (.tuple #[]) ∧ w' = w := by
 have hlen : ∀ W, Calls Tryz.prog 160 #[.int .u64 0] W fun e w' => e = .returned (.int .i64 0) ∧ w' = W := fun W => (Any.bits_Len Tryz.bitsLen2 0 W (by omega) (by omega)).mono fun _ _ h => ⟨h.1.trans (by rw [show (Lib.bitLen (0 : Int).toNat) = 0 by decide]; rfl), h.2⟩
 go_enter Tryz.func132, Tryz.ntmps132
 go_wp2_with fail
 refine (hlen _).mono ?_
 rintro e w2 ⟨rfl, rfl⟩
 go_wp2_with fail
 refine (pdq_none _).mono ?_
 rintro e w2 ⟨rfl, rfl⟩
 go_wp2
 go_end0
 exact ⟨rfl, rfl⟩
end Go.Proofs.YtnenaemincfgpaaGreat
