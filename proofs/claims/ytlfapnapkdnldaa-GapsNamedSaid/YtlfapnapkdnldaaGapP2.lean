/-
  Plain laws for GapsSets: what right pairs are. No walk.
-/
import Derived.Test.YtlfapnapkdnldaaGapP
namespace Go.Proofs.Ytlfapnapkdnldaa.Gp

theorem up_canon (E : Int) : ∀ (L : List Int) (last : Int), up E last L = true → Sp.Canon (prs L) ∧ ∀ x ∈ prs L, last < x.1
  | [], _, _ => ⟨Sp.Canon.nil, by simp [prs]⟩
  | [_], _, _ => ⟨Sp.Canon.nil, by simp [prs]⟩
  | a :: b :: r, last, h => by
    simp only [up, Bool.and_eq_true, decide_eq_true_eq] at h
    obtain ⟨⟨h1, _⟩, ⟨h3, _⟩, h5⟩ := h
    obtain ⟨i1, i2⟩ := up_canon E r b h5
    refine ⟨⟨fun x hx => ?_, List.pairwise_cons.2 ⟨fun y hy => i2 y hy, i1.2⟩⟩, fun x hx => ?_⟩
    · rcases List.mem_cons.1 hx with rfl | hx
      · exact h3
      · exact i1.1 x hx
    · rcases List.mem_cons.1 hx with rfl | hx
      · exact h1
      · have := i2 x hx
        omega
theorem flat_prs : ∀ (L : List Int), L.length % 2 = 0 → Sp.flat (prs L) = L
  | [], _ => rfl
  | [_], h => by simp at h
  | a :: b :: r, h => by
    have ih := flat_prs r (by simp only [List.length_cons] at h; omega)
    show a :: b :: Sp.flat (prs r) = _
    rw [ih]
theorem ats_back (b : Int) (O : List Int) (hO : ∀ v ∈ O, 0 ≤ v ∧ v < 16777216) : (ats b O).map (fun x => (b + x) % 16777216) = O := by
  unfold ats
  rw [List.map_map]
  have : ∀ y ∈ O, ((fun x => (b + x) % 16777216) ∘ fun x => (x - b) % 16777216) y = y := fun y hy => by
    have := hO y hy
    simp only [Function.comp]
    omega
  rw [List.map_congr_left this]
  simp
theorem gl_prs (b : Int) (O : List Int) (hO : ∀ v ∈ O, 0 ≤ v ∧ v < 16777216) (he : O.length % 2 = 0) : gl b (prs (ats b O)) = O := by
  unfold gl
  rw [flat_prs _ (by unfold ats; rw [List.length_map]; exact he), ats_back b O hO]
theorem map_mod (O : List Int) (hO : ∀ v ∈ O, 0 ≤ v ∧ v < 16777216) : O.map (fun x => x % 16777216) = O := by
  have : ∀ y ∈ O, (fun x : Int => x % 16777216) y = y := fun y hy => by
    have := hO y hy
    simp only
    omega
  rw [List.map_congr_left this]
  simp
/-- The pairs that a right list makes are the set that gaps.Set makes. -/
theorem isOf_prs {E : Int} {L : List Int} {S : List (Int × Int)} (hE : E ≤ 8388608) (hu : up E (-1) L = true) (h : Sp.IsOf (prs L) S) : S = prs L := by
  have hs := (up_small E hE L (-1) (by omega) hu).1
  exact Sp.Canon.uniq h.1 (up_canon E L (-1) hu).1 fun n => h.mem_small hs n
theorem up_mem_le (E : Int) : ∀ (L : List Int) (last : Int), up E last L = true → ∀ v ∈ L, last < v ∧ v ≤ E
  | [], _, _ => by simp
  | a :: r, last, h => by
    simp only [up, Bool.and_eq_true, decide_eq_true_eq] at h
    intro v hv
    rcases List.mem_cons.1 hv with rfl | hv
    · exact h.1
    · have := up_mem_le E r a h.2 v hv
      omega
theorem prs_mem : ∀ (L : List Int) (x : Int × Int), x ∈ prs L → x.1 ∈ L ∧ x.2 ∈ L
  | [], x, h => by simp [prs] at h
  | [_], x, h => by simp [prs] at h
  | a :: b :: r, x, h => by
    rcases List.mem_cons.1 h with rfl | h
    · simp
    · have := prs_mem r x h
      exact ⟨by simp [this.1], by simp [this.2]⟩
end Go.Proofs.Ytlfapnapkdnldaa.Gp
