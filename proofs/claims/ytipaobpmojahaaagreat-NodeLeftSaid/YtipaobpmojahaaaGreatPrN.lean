/-
  A new end of a law's own, as an end with labels.
-/
import Derived.Test.YtipaobpmojahaaaGreatEnZk
import Derived.Test.YtipaobpmojahaaaGreatNdSt
namespace Go.Proofs.YtipaobpmojahaaaGreat
open Go.RowKit

theorem NodeNw.end_ {W0 w : World} {n : Nat} {c : Nd.C} (h : NodeNw W0 w n (Nd.S.new c)) (k : Nat) (D : Nat -> Nat) : ∃ D', Lab k D D' W0.heap.size ∧ EndAt k D' w n (En.new c) := by
 obtain ⟨cn, pc, un, h1, l1, l2, l3, l4⟩ := h.at_
 have hpc := h1.pace.2.2
 obtain ⟨v, hun⟩ : ∃ cs, Blk w un 170 cs := by
  obtain ⟨A, c0, a, buf, hb, -⟩ := h1.units
  exact ⟨_, hb⟩
 have e1 : n ≠ cn := Blk.ne_ h1.blk h1.conn (by decide)
 have e2 : n ≠ pc := Blk.ne_ h1.blk hpc (by decide)
 have e3 : n ≠ un := Blk.ne_ h1.blk hun (by decide)
 have e4 : cn ≠ pc := Blk.ne_ h1.conn hpc (by decide)
 have e5 : cn ≠ un := Blk.ne_ h1.conn hun (by decide)
 have e6 : pc ≠ un := Blk.ne_ hpc hun (by decide)
 refine ⟨fun b => if b < W0.heap.size then D b else if b = n then k else if b = cn then k + 1 else if b = pc then k + 2 else if b = un then k + 3 else k + 8, ⟨fun b hb => if_pos hb, fun b hb => ?_⟩, cn, pc, un, none, none, none, 0, none, 0, ?_⟩
 ·dsimp only
  rw [if_neg (by omega)]
  repeat' split
  all_goals omega
 ·refine ⟨⟨h1.blk, ?_⟩, ⟨h1.conn, h1.cok, ?_⟩, ⟨h1.pace, ?_⟩, ⟨none, h1.units, ?_, fun g e => by cases e⟩, ⟨Sl.nil _ _, fun ad e => by cases e⟩, ⟨Sl.nil _ _, fun ad e => by cases e⟩, ⟨rfl, rfl⟩⟩
  ·show (if _ then _ else _) = _; rw [if_neg (by omega), if_pos rfl]
  ·show (if _ then _ else _) = _; rw [if_neg (by omega), if_neg (Ne.symm e1), if_pos rfl]
  ·show (if _ then _ else _) = _; rw [if_neg (by omega), if_neg (Ne.symm e2), if_neg (Ne.symm e4), if_pos rfl]
  ·show (if _ then _ else _) = _; rw [if_neg (by omega), if_neg (Ne.symm e3), if_neg (Ne.symm e5), if_neg (Ne.symm e6), if_pos rfl]
end Go.Proofs.YtipaobpmojahaaaGreat
