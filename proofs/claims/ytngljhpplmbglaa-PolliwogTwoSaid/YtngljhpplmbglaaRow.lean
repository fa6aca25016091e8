/-
  A struct stored whole into a block of its own. No program is named.
-/
import Derived.Test.YtngljhpplmbglaaMem
import Derived.Deep.MidRow
import Derived.Deep.RegionHeld3
namespace Go.Proofs.Ytngljhpplmbglaa
open Go.RowKit

theorem Blk.there {w : World} {g : Nat} {t : TypeId} {cs : List Value} (h : Blk w g t cs) {n : Nat} (hn : n ≤ cs.length) : w.there g 0 n := fun j hj => by
  rw [Nat.zero_add]
  exact ⟨by rw [h.cell, List.getElem?_eq_getElem (show j < cs.length by omega)]; rfl, h.frozen j⟩
theorem Touch.setCells {S : Nat → Prop} {g : Nat} (hS : S g) : ∀ (vs : List Value) (o : Nat) {w w' : World}, Touch S w w' → Touch S w (w'.setCells g o vs)
  | [], _, _, _, h => h
  | v :: r, o, _, _, h => Touch.setCells hS r (o + 1) (h.st hS)
theorem Blk.setCells_at : ∀ (vs : List Value) (o : Nat) {w : World} {g : Nat} {t : TypeId} {cs : List Value}, Blk w g t cs → o + vs.length ≤ cs.length → Blk (w.setCells g o vs) g t (cs.take o ++ vs ++ cs.drop (o + vs.length))
  | [], o, w, g, t, cs, h, _ => by simpa [World.setCells] using h
  | v :: r, o, w, g, t, cs, h, hl => by
    have hl' : o + 1 + r.length ≤ (cs.set o v).length := by simp at hl ⊢; omega
    have := Blk.setCells_at r (o + 1) (h.set o v) hl'
    rw [World.setCells]
    refine this.eq_cells ?_
    have ho : o < cs.length := by simp at hl; omega
    have e1 : (cs.set o v).take (o + 1) = cs.take o ++ [v] := by
      rw [List.take_set, List.take_succ_eq_append_getElem ho, List.set_append_right _ _ (by simp; omega)]
      have : (List.take o cs).length = o := by simp; omega
      rw [this, Nat.sub_self]; rfl
    have e2 : (cs.set o v).drop (o + 1 + r.length) = cs.drop (o + (v :: r).length) := by
      rw [List.drop_set, if_pos (by omega)]
      congr 1
      simp
      omega
    rw [e1, e2]
    simp
theorem Blk.setCells {w : World} {g : Nat} {t : TypeId} {cs vs : List Value} (h : Blk w g t cs) (hl : vs.length = cs.length) : Blk (w.setCells g 0 vs) g t vs := by
  have := Blk.setCells_at vs 0 h (by omega)
  refine this.eq_cells ?_
  rw [Nat.zero_add, hl]
  simp
end Go.Proofs.Ytngljhpplmbglaa
