/-
  ring.Ring[int]: a row that a law holds for itself (it lay nowhere when the law began).
-/
import Derived.Test.YtfieckhhckfjiaaRingOInt
namespace Go.Proofs.Ytfieckhhckfjiaa
open Go.RowKit

/-- A row that lies in memory that was not there in world B. -/
def OwnInt (B w : World) (g most : Nat) (q : List Int) : Prop :=
  ∃ b, RingInt w g b most q ∧ Fresh B w ∧ B.heap.size ≤ g ∧ ∀ k, b = some k → B.heap.size ≤ k

section
variable {B w w' : World} {g most : Nat} {q q' : List Int}
theorem OwnInt.fresh (h : OwnInt B w g most q) : Fresh B w := by obtain ⟨b, _, h, _⟩ := h; exact h
theorem OwnInt.drewN (h : OwnInt B w g most q) (n : Nat) : OwnInt B (w.drewN n) g most q := by
  obtain ⟨b, h1, h2, h3, h4⟩ := h
  exact ⟨b, h1.same rfl, h2.drewN _, h3, h4⟩
theorem OwnInt.eq (h : OwnInt B w g most q) (e : q = q') : OwnInt B w g most q' := e ▸ h
theorem OwnInt.then_ (h : OwnInt B w g most q) (ht : Fresh w w') : OwnInt B w' g most q := by
  obtain ⟨b, h1, h2, h3, h4⟩ := h
  exact ⟨b, h1.touch ht (fun h => h) (fun _ _ h => h), h2.trans ht (fun _ _ h => h), h3, h4⟩
end

theorem ownInt_new (n : Int) (m : Nat) (hm : Hid ((max 0 (min n 4096)).toNat = m)) (B w : World) (h : Fresh B w) :
    Calls Try.prog 12 #[.int .i64 n] w fun e w' => e = .returned (.pointer (some ⟨w.heap.size, 0, none⟩)) ∧ OwnInt B w' w.heap.size m [] := by
  rw [← hm.out]
  refine (ringInt_new n w).mono ?_
  rintro e w' ⟨rfl, h1, h2⟩
  exact ⟨rfl, none, h1, h.trans h2 (fun _ _ h => h), h.size, fun _ e => by cases e⟩
theorem ownInt_len (g most : Nat) (q : List Int) (B w : World) (h : OwnInt B w g most q) :
    Calls Try.prog 15 #[.pointer (some ⟨g, 0, none⟩)] w fun e w' => e = .returned (.int .i64 q.length) ∧ w' = w := by
  obtain ⟨b, h1, _⟩ := h
  exact ringInt_len g b most q w h1
theorem ownInt_most (g most : Nat) (q : List Int) (B w : World) (h : OwnInt B w g most q) :
    Calls Try.prog 26 #[.pointer (some ⟨g, 0, none⟩)] w fun e w' => e = .returned (.int .i64 most) ∧ w' = w := by
  obtain ⟨b, h1, _⟩ := h
  exact ringInt_most g b most q w h1
theorem ownInt_room (g most : Nat) (q : List Int) (B w : World) (h : OwnInt B w g most q) :
    Calls Try.prog 16 #[.pointer (some ⟨g, 0, none⟩)] w fun e w' => e = .returned (.int .i64 ((most : Int) - (q.length : Int))) ∧ OwnInt B w' g most q := by
  obtain ⟨b, h1, h2, h3, h4⟩ := h
  refine (ringInt_room g b most q w h1).mono ?_
  rintro e w' ⟨rfl, m, rfl⟩
  exact ⟨rfl, b, h1.same rfl, h2.drewN _, h3, h4⟩
theorem ownInt_put (g most : Nat) (q : List Int) (v : Int) (B w : World) (h : OwnInt B w g most q) :
    Calls Try.prog 13 #[.pointer (some ⟨g, 0, none⟩), .int .i64 v] w fun e w' => e = .returned (.int .i64 (if q.length < most then 0 else 7)) ∧ OwnInt B w' g most (if q.length < most then q ++ [v] else q) := by
  obtain ⟨b, h1, h2, h3, h4⟩ := h
  refine (ringInt_put g b most q v w h1).mono ?_
  rintro e w' ⟨rfl, b', h1', ht, hb⟩
  refine ⟨rfl, b', h1', h2.trans ht (fun k hk hf => ?_), h3, fun k hk => ?_⟩
  · rcases hf with rfl | e
    · omega
    · have := h4 k e; omega
  · rcases hb k hk with e | e
    · exact h4 k e
    · have := h2.size; omega
theorem ownInt_take (g most : Nat) (q : List Int) (B w : World) (h : OwnInt B w g most q) :
    Calls Try.prog 14 #[.pointer (some ⟨g, 0, none⟩)] w fun e w' => e = .returned (.tuple #[.int .i64 (q.getD 0 0), .int .i64 (if q.length = 0 then 9 else 0)]) ∧ OwnInt B w' g most q.tail := by
  obtain ⟨b, h1, h2, h3, h4⟩ := h
  refine (ringInt_take g b most q w h1).mono ?_
  rintro e w' ⟨rfl, h1', ht⟩
  refine ⟨rfl, b, h1', h2.trans ht (fun k hk hf => ?_), h3, h4⟩
  rcases hf with rfl | e
  · omega
  · have := h4 k e; omega
theorem ownInt_clear (g most : Nat) (q : List Int) (B w : World) (h : OwnInt B w g most q) :
    Calls Try.prog 29 #[.pointer (some ⟨g, 0, none⟩)] w fun e w' => ∃ A' c', e = .returned (.slice A' q.length c') ∧ Sl intE w' A' c' q ∧ OwnInt B w' g most [] ∧ (∀ ad, A' = some ad → w.heap.size ≤ ad.block) ∧ Touch (· = g) w w' := by
  obtain ⟨b, h1, h2, h3, h4⟩ := h
  refine (ringInt_clear g b most q w h1).mono ?_
  rintro e w' ⟨A', c', rfl, s1, h1', ht, hA, _⟩
  exact ⟨A', c', rfl, s1, ⟨none, h1', h2.trans ht (fun k hk e => by have : k = g := e; omega), h3, fun _ e => by cases e⟩, hA, ht⟩
theorem ownInt_all (g most : Nat) (q : List Int) (B w : World) (h : OwnInt B w g most q) :
    Calls Try.prog 25 #[.pointer (some ⟨g, 0, none⟩)] w fun e w' => ∃ A' c', e = .returned (.slice A' q.length c') ∧ Sl intE w' A' c' q ∧ Fresh w w' ∧ (∀ ad, A' = some ad → w.heap.size ≤ ad.block) := by
  obtain ⟨b, ⟨A, c, a, buf, hb, hs, rfl, hm1, hm2, hg⟩, h2, h3, h4⟩ := h
  refine (ringInt_all g A c a most buf q w hb hs ⟨hm1, hm2⟩ hg).mono ?_
  rintro e w' ⟨A', c', rfl, s1, t1, hA, _⟩
  exact ⟨A', c', rfl, s1, t1, hA⟩
end Go.Proofs.Ytfieckhhckfjiaa
