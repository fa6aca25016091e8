/-
  Plain laws: the numbers that pairs name, each once, at most so many. No walk.
-/
import Derived.Test.YtngljhpplmbglaaKey
import Derived.Test.YtngljhpplmbglaaGapV
import Derived.Test.YtngljhpplmbglaaGapE
import Derived.Test.YtngljhpplmbglaaMine
namespace Go.Proofs.Ytngljhpplmbglaa
open Go.RowKit

namespace Gp
def nmAdd (mo : Nat) (M : List Int) (x : Int) : List Int := if M.length < mo ∧ x ∉ M then M ++ [x] else M
def nmRow (mo : Nat) (a : Int) (M : List Int) : Nat → List Int
  | 0 => M
  | k + 1 => nmAdd mo (nmRow mo a M k) ((a + (k : Int)) % 16777216)
def nmPair (mo : Nat) (M : List Int) (a b : Int) : List Int := if (b - a) % 16777216 ≤ 8388608 then nmRow mo (a % 16777216) M ((b - a) % 16777216).toNat else M
def nm (mo : Nat) (l : List Int) : Nat → List Int
  | 0 => []
  | k + 1 => nmPair mo (nm mo l k) (l.getD (2 * k) 0) (l.getD (2 * k + 1) 0)

theorem nmAdd_full {mo : Nat} {M : List Int} (h : mo ≤ M.length) (x : Int) : nmAdd mo M x = M := by
  unfold nmAdd
  rw [if_neg (by omega)]
theorem nmAdd_in {mo : Nat} {M : List Int} {x : Int} (h : x ∈ M) : nmAdd mo M x = M := by
  unfold nmAdd
  rw [if_neg (fun c => c.2 h)]
theorem nmAdd_new {mo : Nat} {M : List Int} {x : Int} (hl : M.length < mo) (h : x ∉ M) : nmAdd mo M x = M ++ [x] := by
  unfold nmAdd
  rw [if_pos ⟨hl, h⟩]
theorem nmAdd_len (mo : Nat) (M : List Int) (x : Int) : M.length ≤ (nmAdd mo M x).length ∧ (nmAdd mo M x).length ≤ M.length + 1 ∧ (M.length ≤ mo → (nmAdd mo M x).length ≤ mo) := by
  unfold nmAdd
  split
  · rw [List.length_append, List.length_singleton]; omega
  · omega
theorem nmRow_len (mo : Nat) (a : Int) (M : List Int) (k : Nat) : M.length ≤ (nmRow mo a M k).length ∧ (nmRow mo a M k).length ≤ M.length + k ∧ (M.length ≤ mo → (nmRow mo a M k).length ≤ mo) := by
  induction k with
  | zero => simp [nmRow]
  | succ k ih =>
    have := nmAdd_len mo (nmRow mo a M k) ((a + (k : Int)) % 16777216)
    simp only [nmRow]
    refine ⟨by omega, by omega, fun h => this.2.2 (ih.2.2 h)⟩
theorem nmRow_stop (mo : Nat) (a : Int) (M : List Int) (k : Nat) (h : mo ≤ (nmRow mo a M k).length) (j : Nat) (hj : k ≤ j) : nmRow mo a M j = nmRow mo a M k := by
  induction j with
  | zero => rw [show k = 0 by omega]
  | succ j ih =>
    rcases (show k = j + 1 ∨ k ≤ j by omega) with rfl | hk
    · rfl
    · have e := ih hk
      simp only [nmRow]
      rw [e, nmAdd_full h]
theorem nmPair_len (mo : Nat) (M : List Int) (a b : Int) : M.length ≤ (nmPair mo M a b).length ∧ ((nmPair mo M a b).length : Int) ≤ M.length + pv a b ∧ (M.length ≤ mo → (nmPair mo M a b).length ≤ mo) := by
  unfold nmPair pv
  split
  · have := nmRow_len mo (a % 16777216) M ((b - a) % 16777216).toNat
    omega
  · omega
theorem nm_len (mo : Nat) (l : List Int) (k : Nat) : (nm mo l k).length ≤ mo ∧ ((nm mo l k).length : Int) ≤ gc l k := by
  induction k with
  | zero => simp [nm, gc]
  | succ k ih =>
    have := nmPair_len mo (nm mo l k) (l.getD (2 * k) 0) (l.getD (2 * k + 1) 0)
    simp only [nm, gc]
    exact ⟨this.2.2 ih.1, by omega⟩
theorem nmRow_bd (mo : Nat) (a : Int) (M : List Int) (hM : ∀ x ∈ M, 0 ≤ x ∧ x < 16777216) (k : Nat) : ∀ x ∈ nmRow mo a M k, 0 ≤ x ∧ x < 16777216 := by
  induction k with
  | zero => exact hM
  | succ k ih =>
    intro x hx
    simp only [nmRow] at hx
    unfold nmAdd at hx
    split at hx
    · rcases List.mem_append.1 hx with h | h
      · exact ih x h
      · rw [List.mem_singleton.1 h]; omega
    · exact ih x hx
theorem nm_bd (mo : Nat) (l : List Int) (k : Nat) : ∀ x ∈ nm mo l k, 0 ≤ x ∧ x < 16777216 := by
  induction k with
  | zero => simp [nm]
  | succ k ih =>
    intro x hx
    simp only [nm, nmPair] at hx
    split at hx
    · exact nmRow_bd mo _ _ ih _ x hx
    · exact ih x hx
/-- One pair alone: its numbers, in their order. -/
theorem nmRow_one (mo : Nat) (a : Int) (k : Nat) (hk : k ≤ 16777216) (hm : k ≤ mo) : nmRow mo a [] k = (List.range k).map fun i : Nat => (a + (i : Int)) % 16777216 := by
  induction k with
  | zero => rfl
  | succ k ih =>
    simp only [nmRow]
    rw [ih (by omega) (by omega), nmAdd_new (by simp; omega), List.range_succ, List.map_append]
    · rfl
    · intro h
      obtain ⟨i, hi, e⟩ := List.mem_map.1 h
      have := List.mem_range.1 hi
      omega

/-- What a map of counts knows of a list. -/
structure Seen (m : MList Int) (M : List Int) (T : Nat) : Prop where
  out : ∀ x, x ∉ M → mget m x = none
  ins : ∀ x, x ∈ M → ∃ z : Int, mget m x = some (.int .i64 z) ∧ 1 ≤ z ∧ z ≤ T
theorem Seen.nil : Seen [] [] 0 := ⟨fun _ _ => rfl, fun _ h => by cases h⟩
theorem Seen.mono {m : MList Int} {M : List Int} {T T' : Nat} (h : Seen m M T) (ht : T ≤ T') : Seen m M T' :=
  ⟨h.out, fun x hx => by obtain ⟨z, h1, h2, h3⟩ := h.ins x hx; exact ⟨z, h1, h2, by omega⟩⟩
theorem Seen.new {m : MList Int} {M : List Int} {T : Nat} (h : Seen m M T) {x : Int} (hx : x ∉ M) : Seen (mset m x (.int .i64 1)) (M ++ [x]) (T + 1) := by
  refine ⟨fun y hy => ?_, fun y hy => ?_⟩
  · rw [mget_mset]
    have h1 : y ≠ x := fun e => hy (by rw [e]; simp)
    rw [if_neg h1]
    exact h.out y fun c => hy (List.mem_append.2 (.inl c))
  · rw [mget_mset]
    by_cases e : y = x
    · rw [if_pos e]
      exact ⟨1, rfl, by omega, by omega⟩
    · rw [if_neg e]
      have : y ∈ M := by
        rcases List.mem_append.1 hy with h | h
        · exact h
        · exact absurd (List.mem_singleton.1 h) e
      obtain ⟨z, h1, h2, h3⟩ := h.ins y this
      exact ⟨z, h1, h2, by omega⟩
theorem Seen.old {m : MList Int} {M : List Int} {T : Nat} (h : Seen m M T) {x z : Int} (hx : x ∈ M) (h1 : 1 ≤ z) (h2 : z ≤ T) : Seen (mset m x (.int .i64 (z + 1))) M (T + 1) := by
  refine ⟨fun y hy => ?_, fun y hy => ?_⟩
  · rw [mget_mset, if_neg (fun e => hy (by rw [e]; exact hx))]
    exact h.out y hy
  · rw [mget_mset]
    by_cases e : y = x
    · rw [if_pos e]
      exact ⟨z + 1, rfl, by omega, by omega⟩
    · rw [if_neg e]
      obtain ⟨z', h1, h2, h3⟩ := h.ins y hy
      exact ⟨z', h1, h2, by omega⟩
end Gp
end Go.Proofs.Ytngljhpplmbglaa
