/-
  Plain laws on pairs: what gaps.Count and gaps.Set make of a set's own pairs. No walk.
-/
import Derived.Test.YtlfapnapkdnldaaGapM
import Derived.Test.YtlfapnapkdnldaaGapS
namespace Go.Proofs.Ytlfapnapkdnldaa.Gp

theorem gc_flat (s : List (Int × Int)) (hs : ∀ x ∈ s, 0 ≤ x.2 - x.1 ∧ x.2 - x.1 ≤ 8388608) (k : Nat) (hk : k ≤ s.length) : gc (Sp.flat s) k = Sp.total (s.take k) := by
  induction k with
  | zero => rfl
  | succ k ih =>
    have hx := hs _ (Sp.getD_mem (s := s) (i := k) (by omega))
    obtain ⟨e1, e2⟩ := Sp.flat_getD s k (by omega)
    simp only [gc]
    rw [ih (by omega), Sp.total_succ s k (by omega), e1, e2]
    congr 1
    unfold pv
    rw [Int.emod_eq_of_lt (by omega) (by omega), if_pos (by omega)]
theorem gc_all (b : Int) (s : List (Int × Int)) (hc : Sp.Canon s) (hs : ∀ x ∈ s, x.2 - x.1 ≤ 8388608) : gc (gl b s) ((gl b s).length / 2) = ((Sp.nums s).length : Int) := by
  rw [gl_len, show 2 * s.length / 2 = s.length by omega, gc_gl b s _ (Nat.le_refl _), gc_flat s (fun x hx => ⟨by have := hc.1 x hx; omega, hs x hx⟩) _ (Nat.le_refl _), List.take_length, Sp.nums_total s hc.1]
theorem ats_gl (b : Int) (s : List (Int × Int)) (hs : ∀ x ∈ s, 0 ≤ x.1 ∧ x.1 < 16777216 ∧ 0 ≤ x.2 ∧ x.2 < 16777216) : ats b (gl b s) = Sp.flat s := by
  unfold ats gl
  rw [List.map_map]
  have : ∀ y ∈ Sp.flat s, ((fun x => (x - b) % 16777216) ∘ fun x => (b + x) % 16777216) y = y := fun y hy => by
    unfold Sp.flat at hy
    obtain ⟨x, hx, hy⟩ := List.mem_flatMap.1 hy
    have := hs x hx
    simp only [List.mem_cons, List.not_mem_nil, or_false] at hy
    simp only [Function.comp]
    rcases hy with rfl | rfl <;> omega
  rw [List.map_congr_left this]
  simp
theorem prs_flat (s : List (Int × Int)) : prs (Sp.flat s) = s := by
  induction s with
  | nil => rfl
  | cons x s ih =>
    show (x.1, x.2) :: prs (Sp.flat s) = x :: s
    rw [ih]
theorem up_flat (E : Int) : ∀ (s : List (Int × Int)) (last : Int), Sp.Canon s → (∀ x ∈ s, last < x.1 ∧ x.2 ≤ E) → up E last (Sp.flat s) = true
  | [], _, _, _ => rfl
  | x :: s, last, hc, h => by
    have hx := h x (by simp)
    obtain ⟨h1, h2⟩ := hc.head
    have ih := up_flat E s x.2 hc.tail (fun y hy => ⟨h2 y hy, (h y (by simp [hy])).2⟩)
    show (decide (last < x.1) && decide (x.1 ≤ E) && (decide (x.1 < x.2) && decide (x.2 ≤ E) && up E x.2 (Sp.flat s))) = true
    rw [ih]
    simp only [Bool.and_true, Bool.and_eq_true, decide_eq_true_eq]
    omega
/-- A set's own pairs are right, with any end behind its last number and within half, and make the set. -/
theorem okSet_gl (b t : Int) (s : List (Int × Int)) (hc : Sp.Canon s) (hs : ∀ x ∈ s, 0 ≤ x.1 ∧ x.2 ≤ (t - b) % 16777216) (hE : (t - b) % 16777216 ≤ 8388608) : okSet b t (gl b s) = true ∧ prs (ats b (gl b s)) = s := by
  have ha : ats b (gl b s) = Sp.flat s := ats_gl b s fun x hx => by
    have := hs x hx
    have := hc.1 x hx
    omega
  refine ⟨?_, by rw [ha, prs_flat]⟩
  unfold okSet
  rw [ha, up_flat _ s (-1) hc (fun x hx => by have := hs x hx; omega), gl_len, decide_eq_true (show 2 * s.length % 2 = 0 by omega), decide_eq_true hE]
  rfl
end Go.Proofs.Ytlfapnapkdnldaa.Gp
