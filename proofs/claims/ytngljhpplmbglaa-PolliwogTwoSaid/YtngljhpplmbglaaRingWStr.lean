/-
  ring.Ring[string]: a row that a law holds for itself (it lay nowhere when the law began).
-/
import Derived.Test.YtngljhpplmbglaaRingOStr
namespace Go.Proofs.Ytngljhpplmbglaa
open Go.RowKit

/-- A row that lies in memory that was not there in world B. -/
def OwnStr (B w : World) (g most : Nat) (q : List ByteArray) : Prop :=
  ∃ b, RingStr w g b most q ∧ Fresh B w ∧ B.heap.size ≤ g ∧ ∀ k, b = some k → B.heap.size ≤ k

section
variable {B w w' : World} {g most : Nat} {q q' : List ByteArray}
theorem OwnStr.fresh (h : OwnStr B w g most q) : Fresh B w := by obtain ⟨b, _, h, _⟩ := h; exact h
theorem OwnStr.drewN (h : OwnStr B w g most q) (n : Nat) : OwnStr B (w.drewN n) g most q := by
  obtain ⟨b, h1, h2, h3, h4⟩ := h
  exact ⟨b, h1.same rfl, h2.drewN _, h3, h4⟩
theorem OwnStr.eq (h : OwnStr B w g most q) (e : q = q') : OwnStr B w g most q' := e ▸ h
theorem OwnStr.then_ (h : OwnStr B w g most q) (ht : Fresh w w') : OwnStr B w' g most q := by
  obtain ⟨b, h1, h2, h3, h4⟩ := h
  exact ⟨b, h1.touch ht (fun h => h) (fun _ _ h => h), h2.trans ht (fun _ _ h => h), h3, h4⟩
end

theorem ownStr_new (n : Int) (m : Nat) (hm : Hid ((max 0 (min n 4096)).toNat = m)) (B w : World) (h : Fresh B w) :
    Calls Try.prog 24 #[.int .i64 n] w fun e w' => e = .returned (.pointer (some ⟨w.heap.size, 0, none⟩)) ∧ OwnStr B w' w.heap.size m [] := by
  rw [← hm.out]
  refine (ringStr_new n w).mono ?_
  rintro e w' ⟨rfl, h1, h2⟩
  exact ⟨rfl, none, h1, h.trans h2 (fun _ _ h => h), h.size, fun _ e => by cases e⟩
theorem ownStr_len (g most : Nat) (q : List ByteArray) (B w : World) (h : OwnStr B w g most q) :
    Calls Try.prog 38 #[.pointer (some ⟨g, 0, none⟩)] w fun e w' => e = .returned (.int .i64 q.length) ∧ w' = w := by
  obtain ⟨b, h1, _⟩ := h
  exact ringStr_len g b most q w h1
theorem ownStr_put (g most : Nat) (q : List ByteArray) (v : ByteArray) (B w : World) (h : OwnStr B w g most q) :
    Calls Try.prog 26 #[.pointer (some ⟨g, 0, none⟩), .string v] w fun e w' => e = .returned (.int .i64 (if q.length < most then 0 else 7)) ∧ OwnStr B w' g most (if q.length < most then q ++ [v] else q) := by
  obtain ⟨b, h1, h2, h3, h4⟩ := h
  refine (ringStr_put g b most q v w h1).mono ?_
  rintro e w' ⟨rfl, b', h1', ht, hb⟩
  refine ⟨rfl, b', h1', h2.trans ht (fun k hk hf => ?_), h3, fun k hk => ?_⟩
  · rcases hf with rfl | e
    · omega
    · have := h4 k e; omega
  · rcases hb k hk with e | e
    · exact h4 k e
    · have := h2.size; omega
theorem ownStr_take (g most : Nat) (q : List ByteArray) (B w : World) (h : OwnStr B w g most q) :
    Calls Try.prog 28 #[.pointer (some ⟨g, 0, none⟩)] w fun e w' => e = .returned (.tuple #[.string (q.getD 0 ByteArray.empty), .int .i64 (if q.length = 0 then 9 else 0)]) ∧ OwnStr B w' g most q.tail := by
  obtain ⟨b, h1, h2, h3, h4⟩ := h
  refine (ringStr_take g b most q w h1).mono ?_
  rintro e w' ⟨rfl, h1', ht⟩
  refine ⟨rfl, b, h1', h2.trans ht (fun k hk hf => ?_), h3, h4⟩
  rcases hf with rfl | e
  · omega
  · have := h4 k e; omega
end Go.Proofs.Ytngljhpplmbglaa
