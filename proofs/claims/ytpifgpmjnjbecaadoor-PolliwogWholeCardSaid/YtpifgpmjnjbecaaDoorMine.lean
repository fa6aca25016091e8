/-
  A list of the call's own, made behind a world. No program is named.
-/
import Derived.Test.YtpifgpmjnjbecaaDoorMem
namespace Go.Proofs.YtpifgpmjnjbecaaDoor
open Go.RowKit

/-- The slice reads as L, in memory that was made behind W; what was there is as it was. -/
structure Mine {α : Type} (E : El α) (W w : World) (A : Option Addr) (c : Nat) (L : List α) : Prop where
  sl : Sl E w A c L
  fresh : Fresh W w
  base : ∀ ad, A = some ad → W.heap.size ≤ ad.block

section
variable {α : Type} {E : El α} {W w w' : World} {A A' : Option Addr} {c c' : Nat} {L L' : List α}
theorem Mine.nil (E : El α) (w : World) : Mine E w w none 0 [] := ⟨Sl.nil E w, Touch.refl _ w, fun _ e => nomatch e⟩
theorem Mine.alloc (h : Mine E W w A c L) (o : Obj) : Mine E W (w.alloc o) A c L := ⟨h.sl.alloc o, h.fresh.alloc o, h.base⟩
theorem Mine.drewN (h : Mine E W w A c L) (n : Nat) : Mine E W (w.drewN n) A c L := ⟨h.sl, h.fresh.drewN n, h.base⟩
theorem Mine.old (h : Mine E W w A c L) (ht : Fresh w w') : Mine E W w' A c L := ⟨h.sl.touch ht (fun _ _ h => h), h.fresh.trans ht (fun _ _ h => h), h.base⟩
theorem Mine.app (h : Mine E W w A c L) (hs : Sl E w' A' c' L') (ht : Touch (fun k => A.map Addr.block = some k) w w') (hA : A'.map Addr.block = A.map Addr.block ∨ A'.map Addr.block = some w.heap.size) : Mine E W w' A' c' L' := by
  refine ⟨hs, h.fresh.trans ht (fun k hk e => ?_), fun ad e => ?_⟩
  · cases A with
    | none => cases e
    | some a0 => have := h.base a0 rfl; simp at e; omega
  · subst e
    rcases hA with e | e
    · cases A with
      | none => cases e
      | some a0 => have := h.base a0 rfl; simp at e; omega
    · have := h.fresh.size; simp at e; omega
theorem Mine.lit (E : El α) (w : World) (cs : Array Value) (l : List α) (hl : cs.toList = E.all l) (n : Nat) (hn : n = l.length) (hm : n ≤ maxLen) : Mine E w (w.alloc (.cells cs E.e)) (some ⟨w.heap.size, 0, none⟩) n l :=
  ⟨Sl.lit E w _ rfl cs l hl n hn hm, (Touch.refl _ w).alloc _, fun ad e => by injection e with e; subst e; exact Nat.le_refl _⟩
/-- What was there ahead of W reads as it did. -/
theorem Mine.keeps {β : Type} {F : El β} {B : Option Addr} {d : Nat} {M : List β} (h : Mine E W w A c L) (hm : Sl F W B d M) : Sl F w B d M := hm.touch h.fresh (fun _ _ h => h)
theorem Mine.keepsR {β : Type} {F : El β} {B : Option Addr} {d : Nat} {M : List β} (h : Mine E W w A c L) (hm : Rd F W B d M) : Rd F w B d M := hm.touch h.fresh (fun _ _ _ h => h)
theorem Mine.own {S : Nat → Prop} (h : Mine E W w A c L) (ht : Touch S w w') (hS : ∀ k, S k → W.heap.size ≤ k) (hA : ∀ ad, A = some ad → ¬ S ad.block) : Mine E W w' A c L :=
  ⟨h.sl.touch ht hA, h.fresh.trans ht (fun k hk hs => by have := hS k hs; omega), h.base⟩
theorem Mine.back {α : Type} {E : El α} {W0 W w : World} {A : Option Addr} {c : Nat} {L : List α} (h : Mine E W w A c L) (ht : Fresh W0 W) : Mine E W0 w A c L := ⟨h.sl, ht.trans h.fresh (fun _ _ h => h), fun ad e => Nat.le_trans ht.size (h.base ad e)⟩
end

/-- What a call leaves: the parts may lie in new memory. -/
def Grown (F : Nat → Prop) (w : World) (x : Nat) : Prop := F x ∨ w.heap.size ≤ x
theorem Grown.old {F : Nat → Prop} {w : World} {x : Nat} (h : F x) : Grown F w x := .inl h
end Go.Proofs.YtpifgpmjnjbecaaDoor
