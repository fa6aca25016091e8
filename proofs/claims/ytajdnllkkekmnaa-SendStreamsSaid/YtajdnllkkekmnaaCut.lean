/-
  polliwoglaw02.Cut.
-/
import Derived.Test.YtajdnllkkekmnaaTy
namespace Go.Proofs.Ytajdnllkkekmnaa
open Go.RowKit

def cut5 (s : ByteArray) : ByteArray := if 5 < s.size then s.extract 0 5 else s
theorem cut5_size (s : ByteArray) : (cut5 s).size ≤ 5 := by
  unfold cut5
  split
  · simp [ByteArray.size_extract]; omega
  · omega
theorem cut5_any (s : ByteArray) (w : World) (hs : s.size ≤ maxLen) :
    Calls Try.prog 14 #[.string s, .int .i64 5] w fun e w' => e = .returned (.string (cut5 s)) ∧ w' = w := by
  unfold maxLen at hs
  by_cases h : 5 < s.size
  · have hc : Hid (cut5 s = s.extract 0 5) := if_pos h
    have h1 : (5 : Int) < (s.size : Int) := by omega
    go_enter Try.func14, Try.ntmps14
    go_wp2
    go_ret
    exact ⟨by rw [hc.out]; rfl, rfl⟩
  · have hc : Hid (cut5 s = s) := if_neg h
    have h1 : ¬ ((5 : Int) < (s.size : Int)) := by omega
    go_enter Try.func14, Try.ntmps14
    go_wp2
    go_ret
    exact ⟨by rw [hc.out]; rfl, rfl⟩
end Go.Proofs.Ytajdnllkkekmnaa
