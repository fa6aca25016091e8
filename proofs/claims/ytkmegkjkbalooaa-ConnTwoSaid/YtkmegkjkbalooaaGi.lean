/-
  polliwoglaw14: pair.give: what it does to a pair's arrays.
-/
import Derived.Test.YtkmegkjkbalooaaCnW
namespace Go.Proofs.Ytkmegkjkbalooaa
open Go.RowKit Go.Shelf

theorem Rd.blk_ne {α : Type} {E : El α} {w : World} {A : Option Addr} {c : Nat} {l : List α} {g : Nat} {t : TypeId} {cs : List Value} (h : Sl E w A c l) (hb : Blk w g t cs) (ht : E.e ≠ t) : ∀ ad, A = some ad → 0 < l.length → ¬ ad.block = g := fun ad e _ => h.blk_ne hb ht ad e
theorem Touch.cel {S : Nat → Prop} {w w' : World} (h : Touch S w w') {g i : Nat} (hg : g < w.heap.size) (hs : ¬ S g) : w'.cell? ⟨g, i, none⟩ = w.cell? ⟨g, i, none⟩ := World.cell?_of_block (h.block g hg hs)
theorem Touch.frz {S : Nat → Prop} {w w' : World} (h : Touch S w w') {g i : Nat} (hg : g < w.heap.size) (hs : ¬ S g) : w'.frozen? ⟨g, i, none⟩ = w.frozen? ⟨g, i, none⟩ := World.frozen?_of_block (h.block g hg hs)
/-- What giving does to the arrays of a pair. -/
structure GivePost (w : World) (g0 g1 : Nat) (cs cs' : List Value) (i j : Nat) (l us : List Cn.Pd) (l' sg : List Cn.Sig) (w' : World) : Prop where
  ex : ∃ A3 c3 A4 c4, Blk w' g0 39 (cs.set j (.slice A3 (l ++ us).length c3)) ∧ Blk w' g1 38 (cs'.set i (.slice A4 (l' ++ sg).length c4)) ∧ Sl pduE w' A3 c3 (l ++ us) ∧ Sl sigE w' A4 c4 (l' ++ sg)
  touch : Touch (fun k => k = g0 ∨ k = g1) w w'

end Go.Proofs.Ytkmegkjkbalooaa
