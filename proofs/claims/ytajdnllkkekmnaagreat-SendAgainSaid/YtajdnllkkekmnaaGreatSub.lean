/-
  's[k:]' of a slice of one-cell elements, k whatever: the value, and what it reads as. No program is named.
-/
import Derived.Test.YtajdnllkkekmnaaGreatMem
import Derived.Lib.SlBytesRow
namespace Go.Proofs.YtajdnllkkekmnaaGreat
open Go.RowKit

/-- Where 's[k:]' begins. -/
def subA (A : Option Addr) (c k : Nat) : Option Addr := if c = k then A else A.map (·.add k)
theorem subA_block (A : Option Addr) (c k : Nat) : ∀ ad, subA A c k = some ad → ∃ ad0, A = some ad0 ∧ ad.block = ad0.block := fun ad e => by
  unfold subA at e
  split at e
  · exact ⟨ad, e, rfl⟩
  · cases A with
    | none => cases e
    | some a0 => injection e with e; exact ⟨a0, rfl, by subst e; simp only [Addr.add]; split <;> rfl⟩
theorem run_slice_from {P : Program} (W : World) (t e : TypeId) (ht : P.underlying t = some (.slice e)) (hz : ∀ w, (Go.sizeOf e).run P w = .ok 1 w) (A : Option Addr) (n c k : Nat) (hk : k ≤ n) (hn : n ≤ c) (hA : A = none → c = 0) :
    (Instr.slice t (.slice A n c) (some (.int .i64 (k : Int))) none none).run P W = .ok (.slice (subA A c k) (n - k) (c - k)) W := by
  have ht' : P.underlying t = some (.slice (P.elem t)) := by simp [Program.elem, ht]
  have he : P.elem t = e := by simp [Program.elem, ht]
  rw [run_slice_l W t _ _ _ ht' .i64 _ (by omega) (by omega), he, hz]
  unfold subA
  cases A with
  | none =>
    have h0 := hA rfl
    subst h0
    obtain rfl : k = 0 := by omega
    simp [Result.andThen, sliced]
  | some ad =>
    by_cases h0 : c = k
    · simp [Result.andThen, sliced, h0]
    · simp [Result.andThen, sliced, h0]
theorem Sl.sub {α : Type} {E : El α} {w : World} {A : Option Addr} {c : Nat} {l : List α} (h : Sl E w A c l) (h1 : E.size = 1) {k : Nat} (hk : k ≤ l.length) : Sl E w (subA A c k) (c - k) (l.drop k) := by
  have := h.from_ hk
  rw [h1, Nat.mul_one] at this
  exact this
end Go.Proofs.YtajdnllkkekmnaaGreat
