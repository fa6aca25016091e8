/-
  polliwoglaw15.PaceLives: the plain mathematics: whoever is safe stays so, where each timer that asks is answered at once.
-/
import Derived.Test.YtppkbljpendkbaaPacePlays
namespace Go.Proofs.Ytppkbljpendkbaa
open Go.RowKit

namespace Lv
/-- Idle and Silent never run both. -/
def One (l : List Int) : Prop := Tm.left l 4 = 0 ∨ Tm.left l 3 = 0
def Inv (l : List Int) : Prop := Pc.safe l = true ∧ One l
def Ok (l : List Int) : Prop := l.length = 5 ∧ ∀ x ∈ l, 0 ≤ x ∧ x ≤ 1048576
theorem five (l : List Int) (h : Ok l) : ∃ a b c d e, l = [a, b, c, d, e] ∧ (0 ≤ a ∧ a ≤ 1048576) ∧ (0 ≤ b ∧ b ≤ 1048576) ∧ (0 ≤ c ∧ c ≤ 1048576) ∧ (0 ≤ d ∧ d ≤ 1048576) ∧ (0 ≤ e ∧ e ≤ 1048576) := by
  obtain ⟨a, b, c, d, e, rfl⟩ := Go.Proofs.Ytppkbljpendkbaa.five h.1
  exact ⟨a, b, c, d, e, rfl, h.2 a (by simp), h.2 b (by simp), h.2 c (by simp), h.2 d (by simp), h.2 e (by simp)⟩
theorem left3 (a b c d e : Int) : Tm.left [a, b, c, d, e] 3 = d := rfl
theorem left4 (a b c d e : Int) : Tm.left [a, b, c, d, e] 4 = e := rfl
theorem left2 (a b c d e : Int) : Tm.left [a, b, c, d, e] 2 = c := rfl
theorem left1 (a b c d e : Int) : Tm.left [a, b, c, d, e] 1 = b := rfl
theorem safe_iff (a b c d e : Int) : Pc.safe [a, b, c, d, e] = true ↔ d = 0 ∨ (0 < b ∧ b < d) ∨ (0 < c ∧ c < d) := by
  unfold Pc.safe
  rw [decide_eq_true_iff, left3, left1, left2]
theorem one_iff (a b c d e : Int) : One [a, b, c, d, e] ↔ e = 0 ∨ d = 0 := Iff.rfl
section
variable (c0 c1 c2 c3 c4 : Int)
theorem begin_eq (a b c d e : Int) (hG : GoodC c0 c1 c2 c3 c4) : Pc.begin_ [a, b, c, d, e] c1 c3 = [a, c1, 0, c3, 0] := by
  simp [Pc.begin_, Pc.end_, Pc.watch, Pc.stops, Tm.stop, Tm.start, Tm.left, clampC hG.2.1, clampC hG.2.2.2.1]
theorem polled_eq (a b c d e : Int) (idle : Bool) (hG : GoodC c0 c1 c2 c3 c4) (hd : 0 ≤ d) : Pc.polled [a, b, c, d, e] c1 c2 c3 idle = [a, if idle = true then 0 else c1, if idle = true then c2 else 0, if 0 < d then d else c3, 0] := by
  cases idle <;> by_cases h : 0 < d <;> simp [Pc.polled, Pc.watch, Pc.stops, Tm.stop, Tm.start, Tm.left, clampC hG.2.1, clampC hG.2.2.1, clampC hG.2.2.2.1, h]
theorem busy_eq (a b c d e : Int) (hG : GoodC c0 c1 c2 c3 c4) (h : 0 < c ∨ 0 < e) : Pc.busy [a, b, c, d, e] c1 c3 = [a, c1, 0, if 0 < d then d else c3, 0] := by
  unfold Pc.busy
  rw [left2, left4, if_pos h]
  by_cases h : 0 < d <;> simp [Pc.watch, Pc.stops, Tm.stop, Tm.start, Tm.left, clampC hG.2.1, clampC hG.2.2.2.1, h]
theorem answered_idle (a b c d e : Int) (hG : GoodC c0 c1 c2 c3 c4) (h : 0 < c) : Pc.answered [a, b, c, d, e] c3 c4 true = [a, b, 0, 0, c4] := by
  unfold Pc.answered
  rw [left2, if_pos ⟨rfl, h⟩]
  simp [Pc.stops, Tm.stop, Tm.start, clampC hG.2.2.2.2.1]
theorem answered_no (a b c d e : Int) (idle : Bool) (hG : GoodC c0 c1 c2 c3 c4) (h : ¬ (idle = true ∧ 0 < c)) : Pc.answered [a, b, c, d, e] c3 c4 idle = [a, b, c, if 0 < e then d else c3, e] := by
  unfold Pc.answered
  rw [left2, left4, if_neg h]
  by_cases h : 0 < e <;> simp [Tm.start, clampC hG.2.2.2.1, h]
theorem one_step (l : List Int) (kd : Int) (idle : Bool) (hG : GoodC c0 c1 c2 c3 c4) (h : Ok l) (h1 : One l) : One (stepF l c0 c1 c2 c3 c4 kd idle) := by
  obtain ⟨a, b, c, d, e, rfl, ha, hb, hc, hd, he⟩ := five l h
  rw [one_iff] at h1
  unfold stepF
  repeat' split
  · rw [begin_eq c0 c1 c2 c3 c4 _ _ _ _ _ hG, one_iff]; exact .inl rfl
  · simp [Pc.end_, Pc.stops, Tm.stop, One, Tm.left]
  · exact h1
  · exact h1
  · by_cases hb : 0 < c ∨ 0 < e
    · rw [busy_eq c0 c1 c2 c3 c4 _ _ _ _ _ hG hb, one_iff]; exact .inl rfl
    · unfold Pc.busy; rw [left2, left4, if_neg hb, one_iff]; exact h1
  · rw [polled_eq c0 c1 c2 c3 c4 _ _ _ _ _ _ hG hd.1, one_iff]; exact .inl rfl
  · by_cases hi : idle = true ∧ 0 < c
    · obtain ⟨rfl, hc⟩ := hi
      rw [answered_idle c0 c1 c2 c3 c4 _ _ _ _ _ hG hc, one_iff]; exact .inr rfl
    · rw [answered_no c0 c1 c2 c3 c4 _ _ _ _ _ _ hG hi, one_iff]
      by_cases h0 : 0 < e
      · rw [if_pos h0]; omega
      · left; omega
  · exact h1
  · show Tm.dec e = 0 ∨ Tm.dec d = 0
    unfold Tm.dec
    rcases h1 with rfl | rfl
    · left; rfl
    · right; rfl
theorem busy_inv (l : List Int) (hG : GoodC c0 c1 c2 c3 c4) (h : Ok l) (h1 : Inv l) (h4 : 0 < Tm.left l 4) : Inv (Pc.busy l c1 c3) := by
  obtain ⟨a, b, c, d, e, rfl, ha, hb, hc, hd, he⟩ := five l h
  rw [left4] at h4
  have h0 : d = 0 := by have := h1.2; rw [one_iff] at this; omega
  rw [busy_eq c0 c1 c2 c3 c4 _ _ _ _ _ hG (.inr h4)]
  obtain ⟨⟨a0, b0⟩, ⟨a1, b1⟩, ⟨a2, b2⟩, ⟨a3, b3⟩, ⟨a4, b4⟩, h13, h23⟩ := hG
  refine ⟨?_, .inl rfl⟩
  rw [safe_iff, if_neg (by omega)]
  right; left
  omega
/-- A timer that asks, answered at once. -/
theorem asked_inv (l : List Int) (idle : Bool) (hG : GoodC c0 c1 c2 c3 c4) (h : Ok l) : Inv (Pc.answered (Pc.polled l c1 c2 c3 idle) c3 c4 idle) := by
  obtain ⟨a, b, c, d, e, rfl, ha, hb, hc, hd, he⟩ := five l h
  rw [polled_eq c0 c1 c2 c3 c4 _ _ _ _ _ _ hG hd.1]
  obtain ⟨⟨a0, b0⟩, ⟨a1, b1⟩, ⟨a2, b2⟩, ⟨a3, b3⟩, ⟨a4, b4⟩, h13, h23⟩ := id hG
  cases idle
  · rw [answered_no c0 c1 c2 c3 c4 _ _ _ _ _ _ hG (by simp)]
    refine ⟨?_, .inl rfl⟩
    rw [safe_iff, if_neg (by omega), if_neg (by decide)]
    right; left
    omega
  · rw [answered_idle c0 c1 c2 c3 c4 _ _ _ _ _ hG (by rw [if_pos rfl]; omega)]
    refine ⟨?_, .inr rfl⟩
    rw [safe_iff]
    exact .inl rfl
theorem over_mem (a b c d e : Int) (t : Int) (h : t ∈ Tm.over [a, b, c, d, e]) : (t = 0 ∧ a = 1) ∨ (t = 1 ∧ b = 1) ∨ (t = 2 ∧ c = 1) ∨ (t = 3 ∧ d = 1) ∨ (t = 4 ∧ e = 1) := by
  unfold Tm.over Tm.overTo at h
  simp [List.range_succ, List.filter_append, List.filter_cons] at h
  split at h <;> split at h <;> split at h <;> split at h <;> split at h <;> (simp at h <;> omega)
theorem over_of (a b c d e : Int) : (b = 1 → 1 ∈ Tm.over [a, b, c, d, e]) ∧ (c = 1 → 2 ∈ Tm.over [a, b, c, d, e]) := by
  constructor
  · rintro rfl
    unfold Tm.over Tm.overTo
    simp [List.range_succ]
    exact ⟨1, ⟨.inr (.inl rfl), rfl⟩, rfl⟩
  · rintro rfl
    unfold Tm.over Tm.overTo
    simp [List.range_succ]
    exact ⟨2, ⟨.inr (.inr (.inl rfl)), rfl⟩, rfl⟩
theorem over_3 (l : List Int) (h : Ok l) (h1 : Inv l) : ∀ t ∈ Tm.over l, t ≠ 3 := by
  obtain ⟨a, b, c, d, e, rfl, ha, hb, hc, hd, he⟩ := five l h
  intro t ht e3
  have h2 := h1.1
  rw [safe_iff] at h2
  rcases over_mem a b c d e t ht with h | h | h | h | h <;> omega
theorem tick_inv (l : List Int) (h : Ok l) (h1 : Inv l) (hn : ∀ t ∈ Tm.over l, ¬ (t = 1 ∨ t = 2 ∨ t = 4)) : Inv (Tm.tick l) := by
  obtain ⟨a, b, c, d, e, rfl, ha, hb, hc, hd, he⟩ := five l h
  have h2 := h1.1
  rw [safe_iff] at h2
  have hb1 : b ≠ 1 := fun x => hn 1 ((over_of a b c d e).1 x) (.inl rfl)
  have hc1 : c ≠ 1 := fun x => hn 2 ((over_of a b c d e).2 x) (.inr (.inl rfl))
  have ho : e = 0 ∨ d = 0 := h1.2
  refine ⟨?_, ?_⟩
  · show Pc.safe [Tm.dec a, Tm.dec b, Tm.dec c, Tm.dec d, Tm.dec e] = true
    rw [safe_iff]
    unfold Tm.dec
    split <;> split <;> split <;> omega
  · show Tm.dec e = 0 ∨ Tm.dec d = 0
    unfold Tm.dec
    rcases ho with rfl | rfl
    · left; rfl
    · right; rfl
end
end Lv
end Go.Proofs.Ytppkbljpendkbaa
