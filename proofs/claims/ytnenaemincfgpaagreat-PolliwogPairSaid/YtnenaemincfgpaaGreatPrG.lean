/-
  A new end of a law's own, as an end with labels · polliwogtop.PolliwogPair: the region that makes both ends and their boxes, in any order: what holds on the way.
-/
import Derived.Test.YtnenaemincfgpaaGreatPrH
import Derived.Test.YtnenaemincfgpaaGreatNdSt
import Derived.Test.YtnenaemincfgpaaGreatTurn2
namespace Go.Proofs.YtnenaemincfgpaaGreat
open Go.RowKit

theorem NodeNw.end_ {W0 w : World} {n : Nat} {c : Nd.C} (h : NodeNw W0 w n (Nd.S.new c)) (k : Nat) (D : Nat -> Nat) : ∃ D', Lab k D D' W0.heap.size ∧ EndAt k D' w n (En.new c) := by
 obtain ⟨cn, pc, un, h1, l1, l2, l3, l4⟩ := h.at_
 have hpc := h1.pace.2.2
 obtain ⟨v, hun⟩ : ∃ cs, Blk w un 116 cs := by
  obtain ⟨A, c0, a, buf, hb, -⟩ := h1.units
  exact ⟨_, hb⟩
 have e1 : n ≠ cn := Blk.ne_ h1.blk h1.conn (by decide)
 have e2 : n ≠ pc := Blk.ne_ h1.blk hpc (by decide)
 have e3 : n ≠ un := Blk.ne_ h1.blk hun (by decide)
 have e4 : cn ≠ pc := Blk.ne_ h1.conn hpc (by decide)
 have e5 : cn ≠ un := Blk.ne_ h1.conn hun (by decide)
 have e6 : pc ≠ un := Blk.ne_ hpc hun (by decide)
 refine ⟨fun b => if b < W0.heap.size then D b else if b = n then k else if b = cn then k + 1 else if b = pc then k + 2 else if b = un then k + 3 else k + 8, ⟨fun b hb => if_pos hb, fun b hb => ?_⟩, cn, pc, un, none, none, none, 0, none, 0, ?_⟩
 ·dsimp only
  rw [if_neg (by omega)]
  repeat' split
  all_goals omega
 ·refine ⟨⟨h1.blk, ?_⟩, ⟨h1.conn, h1.cok, ?_⟩, ⟨h1.pace, ?_⟩, ⟨none, h1.units, ?_, fun g e => by cases e⟩, ⟨Sl.nil _ _, fun ad e => by cases e⟩, ⟨Sl.nil _ _, fun ad e => by cases e⟩, ⟨rfl, rfl⟩⟩
  ·show (if _ then _ else _) = _; rw [if_neg (by omega), if_pos rfl]
  ·show (if _ then _ else _) = _; rw [if_neg (by omega), if_neg (Ne.symm e1), if_pos rfl]
  ·show (if _ then _ else _) = _; rw [if_neg (by omega), if_neg (Ne.symm e2), if_neg (Ne.symm e4), if_pos rfl]
  ·show (if _ then _ else _) = _; rw [if_neg (by omega), if_neg (Ne.symm e3), if_neg (Ne.symm e5), if_neg (Ne.symm e6), if_pos rfl]
namespace Pr
structure G3 where
 n1 : Nat
 n2 : Nat
 p7 : Nat
 p8 : Nat
 q1 : Nd.C
 q2 : Nd.C
def ptr1 (n : Nat) : Value := .pointer (some ⟨n, 0, none⟩)
def g3val (v1 v2 : Value) (b : G3) (i : Nat) : Value := [v1, ptr1 b.n1, v2, ptr1 b.n2, ptr1 b.p7, ptr1 b.p8].getD i undef
def g3slot (i : Nat) : Nat := [26, 27, 28, 29, 7, 8, 1006, 1007].getD i 2000
def g3idx (k : Nat) : Nat := if k = 26 then 0 else if k = 27 then 1 else if k = 28 then 2 else if k = 29 then 3 else if k = 7 then 4 else 5
def g3D : List Nat := [26, 27, 28, 29, 7, 8]
structure G3W (B w : World) (bc bd : Nat) (cs ds : List Value) (K1 K2 : Nd.C -> Prop) (b : G3) (d : Nat -> Bool) (W : World) : Prop where
 fr : Fresh w W
 c1 : Blk W bc 24 cs
 c2 : Blk W bd 24 ds
 ex : ∃ D : Nat -> Nat, (∀ k, k < B.heap.size -> D k = 40) ∧ (d 1 = true -> EndAt 0 D W b.n1 (En.new b.q1) ∧ K1 b.q1) ∧ (d 3 = true -> EndAt 16 D W b.n2 (En.new b.q2) ∧ K2 b.q2) ∧
  (d 4 = true -> Blk W b.p7 27 [if d 6 = true then ptr1 b.n1 else .pointer none] ∧ D b.p7 = 33 ∧ w.heap.size <= b.p7) ∧
  (d 5 = true -> Blk W b.p8 27 [if d 7 = true then ptr1 b.n2 else .pointer none] ∧ D b.p8 = 33 ∧ w.heap.size <= b.p8) ∧ (d 4 = true -> d 5 = true -> b.p7 ≠ b.p8)
section
variable {B w W W' : World} {bc bd : Nat} {cs ds : List Value} {K1 K2 : Nd.C -> Prop} {b : G3} {d : Nat -> Bool}
theorem G3W.call1 {c : Nd.C} {n : Nat} (h : G3W B w bc bd cs ds K1 K2 b d W) (hk : K1 c) (hB : B.heap.size <= w.heap.size) (hn : NodeNw W W' n (Nd.S.new c)) (h6 : ¬ d 6 = true) : G3W B w bc bd cs ds K1 K2 { b with n1 := n, q1 := c } (Dag.upd d 1 true) W' := by
 obtain ⟨D, e1, e2, e3, e4, e5, e6⟩ := h.ex
 obtain ⟨D', l1, a1⟩ := hn.end_ 0 D
 have hf := hn.fresh
 have hs := h.fr.size
 refine ⟨h.fr.trans hf (fun _ _ e => e), hf.blk h.c1 (fun e => e), hf.blk h.c2 (fun e => e), D', fun k hk => (l1.1 k (by omega)).trans (e1 k hk), fun _ => ⟨a1, hk⟩, fun h3 => ?_, fun h4 => ?_, fun h5 => ?_, fun h4 h5 => ?_⟩
 ·rw [Dag.upd_far _ _ (by decide)] at h3
  exact ⟨(e3 h3).1.old hf l1.1, (e3 h3).2⟩
 ·rw [Dag.upd_far _ _ (by decide)] at h4
  obtain ⟨g1, g2, g3⟩ := e4 h4
  rw [Dag.upd_far _ _ (by decide), if_neg h6]
  rw [if_neg h6] at g1
  exact ⟨hf.blk g1 (fun e => e), (l1.1 _ g1.lt).trans g2, g3⟩
 ·rw [Dag.upd_far _ _ (by decide)] at h5
  obtain ⟨g1, g2, g3⟩ := e5 h5
  rw [Dag.upd_far _ _ (by decide)]
  exact ⟨hf.blk g1 (fun e => e), (l1.1 _ g1.lt).trans g2, g3⟩
 ·rw [Dag.upd_far _ _ (by decide)] at h4 h5
  exact e6 h4 h5
theorem G3W.call2 {c : Nd.C} {n : Nat} (h : G3W B w bc bd cs ds K1 K2 b d W) (hk : K2 c) (hB : B.heap.size <= w.heap.size) (hn : NodeNw W W' n (Nd.S.new c)) (h7 : ¬ d 7 = true) : G3W B w bc bd cs ds K1 K2 { b with n2 := n, q2 := c } (Dag.upd d 3 true) W' := by
 obtain ⟨D, e1, e2, e3, e4, e5, e6⟩ := h.ex
 obtain ⟨D', l1, a1⟩ := hn.end_ 16 D
 have hf := hn.fresh
 have hs := h.fr.size
 refine ⟨h.fr.trans hf (fun _ _ e => e), hf.blk h.c1 (fun e => e), hf.blk h.c2 (fun e => e), D', fun k hk => (l1.1 k (by omega)).trans (e1 k hk), fun h1 => ?_, fun _ => ⟨a1, hk⟩, fun h4 => ?_, fun h5 => ?_, fun h4 h5 => ?_⟩
 ·rw [Dag.upd_far _ _ (by decide)] at h1
  exact ⟨(e2 h1).1.old hf l1.1, (e2 h1).2⟩
 ·rw [Dag.upd_far _ _ (by decide)] at h4
  obtain ⟨g1, g2, g3⟩ := e4 h4
  rw [Dag.upd_far _ _ (by decide)]
  exact ⟨hf.blk g1 (fun e => e), (l1.1 _ g1.lt).trans g2, g3⟩
 ·rw [Dag.upd_far _ _ (by decide)] at h5
  obtain ⟨g1, g2, g3⟩ := e5 h5
  rw [Dag.upd_far _ _ (by decide), if_neg h7]
  rw [if_neg h7] at g1
  exact ⟨hf.blk g1 (fun e => e), (l1.1 _ g1.lt).trans g2, g3⟩
 ·rw [Dag.upd_far _ _ (by decide)] at h4 h5
  exact e6 h4 h5
theorem G3W.box1 (h : G3W B w bc bd cs ds K1 K2 b d W) (hB : B.heap.size <= w.heap.size) (h6 : ¬ d 6 = true) : G3W B w bc bd cs ds K1 K2 { b with p7 := W.heap.size } (Dag.upd d 4 true) (W.alloc (.cells #[.pointer none] 27)) := by
 obtain ⟨D, e1, e2, e3, e4, e5, e6⟩ := h.ex
 have hf : Fresh W (W.alloc (.cells #[.pointer none] 27)) := (Touch.refl _ _).alloc _
 have hD : ∀ k, k < W.heap.size -> lab D W.heap.size 33 k = D k := fun k hk => lab_old hk
 have hs := h.fr.size
 refine ⟨h.fr.trans hf (fun _ _ e => e), hf.blk h.c1 (fun e => e), hf.blk h.c2 (fun e => e), lab D W.heap.size 33, fun k hk => (hD k (by omega)).trans (e1 k hk), fun h1 => ?_, fun h3 => ?_, fun _ => ?_, fun h5 => ?_, fun _ h5 => ?_⟩
 ·rw [Dag.upd_far _ _ (by decide)] at h1
  exact ⟨(e2 h1).1.old hf hD, (e2 h1).2⟩
 ·rw [Dag.upd_far _ _ (by decide)] at h3
  exact ⟨(e3 h3).1.old hf hD, (e3 h3).2⟩
 ·rw [Dag.upd_far _ _ (by decide), if_neg h6]
  exact ⟨Blk.new W _ _, lab_new (Nat.le_refl _), hs⟩
 ·rw [Dag.upd_far _ _ (by decide)] at h5
  obtain ⟨g1, g2, g3⟩ := e5 h5
  rw [Dag.upd_far _ _ (by decide)]
  exact ⟨hf.blk g1 (fun e => e), (hD _ g1.lt).trans g2, g3⟩
 ·rw [Dag.upd_far _ _ (by decide)] at h5
  have := (e5 h5).1.lt
  show W.heap.size ≠ b.p8
  omega
theorem G3W.box2 (h : G3W B w bc bd cs ds K1 K2 b d W) (hB : B.heap.size <= w.heap.size) (h7 : ¬ d 7 = true) : G3W B w bc bd cs ds K1 K2 { b with p8 := W.heap.size } (Dag.upd d 5 true) (W.alloc (.cells #[.pointer none] 27)) := by
 obtain ⟨D, e1, e2, e3, e4, e5, e6⟩ := h.ex
 have hf : Fresh W (W.alloc (.cells #[.pointer none] 27)) := (Touch.refl _ _).alloc _
 have hD : ∀ k, k < W.heap.size -> lab D W.heap.size 33 k = D k := fun k hk => lab_old hk
 have hs := h.fr.size
 refine ⟨h.fr.trans hf (fun _ _ e => e), hf.blk h.c1 (fun e => e), hf.blk h.c2 (fun e => e), lab D W.heap.size 33, fun k hk => (hD k (by omega)).trans (e1 k hk), fun h1 => ?_, fun h3 => ?_, fun h4 => ?_, fun _ => ?_, fun h4 _ => ?_⟩
 ·rw [Dag.upd_far _ _ (by decide)] at h1
  exact ⟨(e2 h1).1.old hf hD, (e2 h1).2⟩
 ·rw [Dag.upd_far _ _ (by decide)] at h3
  exact ⟨(e3 h3).1.old hf hD, (e3 h3).2⟩
 ·rw [Dag.upd_far _ _ (by decide)] at h4
  obtain ⟨g1, g2, g3⟩ := e4 h4
  rw [Dag.upd_far _ _ (by decide)]
  exact ⟨hf.blk g1 (fun e => e), (hD _ g1.lt).trans g2, g3⟩
 ·rw [Dag.upd_far _ _ (by decide), if_neg h7]
  exact ⟨Blk.new W _ _, lab_new (Nat.le_refl _), hs⟩
 ·rw [Dag.upd_far _ _ (by decide)] at h4
  have := (e4 h4).1.lt
  show b.p7 ≠ W.heap.size
  omega
theorem G3W.put1 (h : G3W B w bc bd cs ds K1 K2 b d W) (hbc : bc < w.heap.size ∧ bd < w.heap.size) (h4 : d 4 = true) : G3W B w bc bd cs ds K1 K2 b (Dag.upd d 6 true) (W.setCell ⟨b.p7, 0, none⟩ (ptr1 b.n1)) := by
 obtain ⟨D, e1, e2, e3, e4, e5, e6⟩ := h.ex
 obtain ⟨g1, g2, g3⟩ := e4 h4
 have ht : Touch (· = b.p7) W (W.setCell ⟨b.p7, 0, none⟩ (ptr1 b.n1)) := Touch.set1 W b.p7 0 (ptr1 b.n1)
 refine ⟨h.fr.trans ht (fun k hk e => by have e : k = b.p7 := e; omega), ht.blk h.c1 (fun e => by have e : bc = b.p7 := e; omega), ht.blk h.c2 (fun e => by have e : bd = b.p7 := e; omega), D, e1, fun h1 => ?_, fun h3 => ?_, ?_, ?_, fun h4 h5 => ?_⟩
 ·rw [Dag.upd_far _ _ (by decide)] at h1
  exact ⟨(e2 h1).1.off ht (fun k e => by have e : k = b.p7 := e; rw [e, g2]; decide) (by decide) (fun _ _ => rfl), (e2 h1).2⟩
 ·rw [Dag.upd_far _ _ (by decide)] at h3
  exact ⟨(e3 h3).1.off ht (fun k e => by have e : k = b.p7 := e; rw [e, g2]; decide) (by decide) (fun _ _ => rfl), (e3 h3).2⟩
 ·intro _
  rw [Dag.upd_same, if_pos rfl]
  exact ⟨g1.set 0 _, g2, g3⟩
 ·intro h5
  rw [Dag.upd_far _ _ (by decide)] at h5
  obtain ⟨k1, k2, k3⟩ := e5 h5
  rw [Dag.upd_far _ _ (by decide)]
  exact ⟨ht.blk k1 (fun e => e6 h4 h5 (Eq.symm e)), k2, k3⟩
 ·rw [Dag.upd_far _ _ (by decide)] at h4 h5
  exact e6 h4 h5
theorem G3W.put2 (h : G3W B w bc bd cs ds K1 K2 b d W) (hbc : bc < w.heap.size ∧ bd < w.heap.size) (h5 : d 5 = true) : G3W B w bc bd cs ds K1 K2 b (Dag.upd d 7 true) (W.setCell ⟨b.p8, 0, none⟩ (ptr1 b.n2)) := by
 obtain ⟨D, e1, e2, e3, e4, e5, e6⟩ := h.ex
 obtain ⟨g1, g2, g3⟩ := e5 h5
 have ht : Touch (· = b.p8) W (W.setCell ⟨b.p8, 0, none⟩ (ptr1 b.n2)) := Touch.set1 W b.p8 0 (ptr1 b.n2)
 refine ⟨h.fr.trans ht (fun k hk e => by have e : k = b.p8 := e; omega), ht.blk h.c1 (fun e => by have e : bc = b.p8 := e; omega), ht.blk h.c2 (fun e => by have e : bd = b.p8 := e; omega), D, e1, fun h1 => ?_, fun h3 => ?_, ?_, ?_, fun h4 h5 => ?_⟩
 ·rw [Dag.upd_far _ _ (by decide)] at h1
  exact ⟨(e2 h1).1.off ht (fun k e => by have e : k = b.p8 := e; rw [e, g2]; decide) (by decide) (fun _ _ => rfl), (e2 h1).2⟩
 ·rw [Dag.upd_far _ _ (by decide)] at h3
  exact ⟨(e3 h3).1.off ht (fun k e => by have e : k = b.p8 := e; rw [e, g2]; decide) (by decide) (fun _ _ => rfl), (e3 h3).2⟩
 ·intro h4
  rw [Dag.upd_far _ _ (by decide)] at h4
  obtain ⟨k1, k2, k3⟩ := e4 h4
  rw [Dag.upd_far _ _ (by decide)]
  exact ⟨ht.blk k1 (fun e => e6 h4 h5 e), k2, k3⟩
 ·intro _
  rw [Dag.upd_same, if_pos rfl]
  exact ⟨g1.set 0 _, g2, g3⟩
 ·rw [Dag.upd_far _ _ (by decide)] at h4 h5
  exact e6 h4 h5
theorem G3W.read (h : G3W B w bc bd cs ds K1 K2 b d W) {i : Nat} (h1 : i = 0 ∨ i = 2) : G3W B w bc bd cs ds K1 K2 b (Dag.upd d i true) W := by
 obtain ⟨D, e⟩ := h.ex
 refine ⟨h.fr, h.c1, h.c2, D, ?_⟩
 rcases h1 with rfl | rfl <;> (simp only [Dag.upd_far _ _ (show (1 : Nat) ≠ 0 by decide), Dag.upd_far _ _ (show (3 : Nat) ≠ 0 by decide), Dag.upd_far _ _ (show (4 : Nat) ≠ 0 by decide), Dag.upd_far _ _ (show (5 : Nat) ≠ 0 by decide), Dag.upd_far _ _ (show (6 : Nat) ≠ 0 by decide), Dag.upd_far _ _ (show (7 : Nat) ≠ 0 by decide), Dag.upd_far _ _ (show (1 : Nat) ≠ 2 by decide), Dag.upd_far _ _ (show (3 : Nat) ≠ 2 by decide), Dag.upd_far _ _ (show (4 : Nat) ≠ 2 by decide), Dag.upd_far _ _ (show (5 : Nat) ≠ 2 by decide), Dag.upd_far _ _ (show (6 : Nat) ≠ 2 by decide), Dag.upd_far _ _ (show (7 : Nat) ≠ 2 by decide)]; exact e)
end
end Pr
end Go.Proofs.YtnenaemincfgpaaGreat
