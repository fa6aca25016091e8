/-
  A list of spans, laid flat. No walk.
-/
import Derived.Test.YtpjmgdoekeknjaaSpanQ
namespace Go.Proofs.Ytpjmgdoekeknjaa

namespace Sp
def flat (s : List (Int × Int)) : List Int := s.flatMap fun x => [x.1, x.2]
theorem flat_append (s t : List (Int × Int)) : flat (s ++ t) = flat s ++ flat t := by simp [flat]
theorem flat_one (x : Int × Int) : flat [x] = [x.1, x.2] := by simp [flat]
theorem flat_len (s : List (Int × Int)) : (flat s).length = 2 * s.length := by
  induction s with
  | nil => rfl
  | cons x s ih =>
    show (List.flatMap _ (x :: s)).length = _
    rw [List.flatMap_cons, List.length_append]
    unfold flat at ih
    rw [ih]
    simp only [List.length_cons, List.length_nil]
    omega
theorem flat_getD (s : List (Int × Int)) (k : Nat) (hk : k < s.length) : (flat s).getD (2 * k) 0 = (s.getD k (0, 0)).1 ∧ (flat s).getD (2 * k + 1) 0 = (s.getD k (0, 0)).2 := by
  induction s generalizing k with
  | nil => simp at hk
  | cons x s ih =>
    cases k with
    | zero => exact ⟨rfl, rfl⟩
    | succ k =>
      have := ih k (by simpa using hk)
      exact this
end Sp
end Go.Proofs.Ytpjmgdoekeknjaa
