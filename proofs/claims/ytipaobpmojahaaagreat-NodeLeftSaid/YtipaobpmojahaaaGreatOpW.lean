/-
  polliwoglaw16.Opened: the two ends on the way, and what each round of the loop makes of them. Conditions: the config's numbers may be · polliwoglaw16.Opened: an end that is Ready, of any config. No conditions.
-/
import Derived.Test.YtipaobpmojahaaaGreatOpU
import Derived.Test.YtipaobpmojahaaaGreatOpY
import Derived.Test.YtipaobpmojahaaaGreatPrN
import Derived.Test.YtipaobpmojahaaaGreatNdSt
import Derived.Test.YtipaobpmojahaaaGreatOpN
import Derived.Test.YtipaobpmojahaaaGreatOpK
set_option maxHeartbeats 8000000
namespace Go.Proofs.YtipaobpmojahaaaGreat
open Go.RowKit
set_option maxRecDepth 20000
set_option linter.constructorNameAsVariable false

theorem EndAt.far {D D' : Nat -> Nat} {w w' : World} {n : Nat} {x : En.X} {T : Nat -> Prop} (h : EndAt 0 D w n x) (ht : Touch T w w') (hT : ∀ b, T b -> 8 <= D b) (hD : ∀ b, b < w.heap.size -> D' b = D b) : EndAt 0 D' w' n x := by
 obtain ⟨cn, pc, un, sp, rp, A, ca, B, cb, hi⟩ := h
 exact ⟨cn, pc, un, sp, rp, A, ca, B, cb, hi.keep ht (fun b hb => by have := hT b hb; omega) hD⟩
namespace Ope
def zs (c : Nd.C) (N : Int) (j : Nat) : En.X := if j = 0 then En.new c else if j = 1 then x1 c N else if j = 2 then x2 c N else x3 c N
def acts (j : Nat) : List Value := if j = 0 then actB else if j = 1 then actA else actN
structure Cf (y0 y1 y2 y3 y4 y5 : Int) : Prop where
 h0 : 1 <= y0 ∧ y0 <= 16
 h1 : 1 <= y1 ∧ y1 <= 64
 h2 : 1 <= y2 ∧ y2 <= 256
 h3 : 1 <= y3 ∧ y3 <= 64
 h4 : 1 <= y4 ∧ y4 <= 256
 h5 : 0 <= y5 ∧ y5 < 16777216
structure CfOf (y0 y1 y2 y3 y4 y5 : Int) (c : Nd.C) : Prop where
 good : GoodC c.cc c.poll c.keep c.silent c.idle
 most : c.most = y0
 window : c.window = y1
 queue : c.queue = y2
 units : c.units = y3
 polls : c.polls = y4
 start : c.start = y5
def Sh (y0 y1 y2 y3 y4 y5 : Int) (T : Option Addr) (tk : List Int) (D : Nat -> Nat) (W : World) (j : Nat) (X : Rn) : Prop :=
 if j = 0 then ∃ L cL, X = hb0 y0 y1 y2 y3 y4 y5 T 5 (cnI (max 1 (min y0 16)) ((y5 + y1) % 16777216)) L cL ∧ Sl intE W T 5 tk ∧ (∀ ad, T = some ad -> D ad.block = 40) ∧ Sl intE W L cL [0, 0, 0, 0, 0] ∧ ∀ ad, L = some ad -> D ad.block = 40
 else if j = 1 then ∃ L cL, X = hb0 y0 y1 y2 y3 y4 y5 T 5 (cnB (max 1 (min y0 16)) ((y5 + y1) % 16777216) ((y5 + 31) % 16777216)) L cL ∧ Sl intE W T 5 tk ∧ (∀ ad, T = some ad -> D ad.block = 40) ∧ Sl intE W L cL [0, 0, 0, 0, 0] ∧ ∀ ad, L = some ad -> D ad.block = 40
 else if j = 2 then ∃ L cL A cA, X = hbZ y0 y1 y2 y3 y4 y5 T 5 (cnR (max 1 (min y0 16)) ((y5 + y1) % 16777216) ((y5 + 31) % 16777216)) L cL A cA 31 ∧ Sl rp06E W A cA [bgak ((y5 + y1) % 16777216)]
 else X.y2 = y2 ∧ X.y3 = y3
structure At (w0 : World) (y0 y1 y2 y3 y4 y5 : Int) (T : Option Addr) (tk : List Int) (c : Nd.C) (n p5 p3 ga : Nat) (j : Nat) (W : World) : Prop where
 fr : Fresh w0 W
 lp : w0.heap.size <= p5
 ne : p3 ≠ p5 ∧ ga ≠ p5
 ex : ∃ D X, (∀ b, b < w0.heap.size -> D b = 40) ∧ EndAt 0 D W n (zs c ((y5 + 31) % 16777216) j) ∧ Sh y0 y1 y2 y3 y4 y5 T tk D W j X ∧ (Blk W p5 40 X.cells ∧ D p5 = 40) ∧ (Blk W p3 40 rnZ ∧ D p3 = 40) ∧ (Blk W ga 79 (actB ++ actA ++ actN) ∧ D ga = 40)
section
variable {w0 W : World} {y0 y1 y2 y3 y4 y5 : Int} {T : Option Addr} {tk : List Int} {c : Nd.C} {n p5 p3 ga j : Nat}
def RPost (w0 : World) (y0 y1 y2 y3 y4 y5 : Int) (T : Option Addr) (tk : List Int) (c : Nd.C) (n p5 p3 ga j : Nat) (X : Rn) (e : Ending) (w' : World) : Prop :=
 ∃ Y : Rn, e = .returned (.tuple #[.agg Y.cells.toArray, .bool true]) ∧ Blk w' p5 40 X.cells ∧
  ∀ w2 W2, Fresh w' w2 -> Touch (· = p5) w2 W2 -> Blk W2 p5 40 Y.cells -> At w0 y0 y1 y2 y3 y4 y5 T tk c n p5 p3 ga (j + 1) W2
theorem At.fin (h : At w0 y0 y1 y2 y3 y4 y5 T tk c n p5 p3 ga j W) {D D2 : Nat -> Nat} {X Y : Rn} {W1 w' : World} (hD : ∀ b, b < w0.heap.size -> D b = 40) (h5 : Blk W p5 40 X.cells ∧ D p5 = 40) (h3 : Blk W p3 40 rnZ ∧ D p3 = 40) (ha : Blk W ga 79 (actB ++ actA ++ actN) ∧ D ga = 40)
  (hW : Fresh W W1) (he : EndTo 0 (lab D W.heap.size 40) D2 W1 w' n (zs c ((y5 + 31) % 16777216) (j + 1)))
  (hs : ∀ w2 W2, Fresh w' w2 -> Touch (· = p5) w2 W2 -> Blk w2 p5 40 X.cells -> Sh y0 y1 y2 y3 y4 y5 T tk (lab D2 w'.heap.size 40) W2 (j + 1) Y) :
  RPost w0 y0 y1 y2 y3 y4 y5 T tk c n p5 p3 ga j X (.returned (.tuple #[.agg Y.cells.toArray, .bool true])) w' := by
 have kp : ∀ {b : Nat} {t : TypeId} {cs : List Value}, Blk W b t cs -> D b = 40 -> Blk w' b t cs ∧ D2 b = 40 := fun {b t cs} hb hl => by
  have h1 := hW.blk hb (fun e => e)
  have h2 : lab D W.heap.size 40 b = 40 := (lab_old hb.lt).trans hl
  exact ⟨he.touch.blk h1 (fun e => by unfold All at e; rw [h2] at e; omega), (he.lab.1 b h1.lt).trans h2⟩
 have k5 := kp h5.1 h5.2
 have k3 := kp h3.1 h3.2
 have ka := kp ha.1 ha.2
 have hs0 := h.fr.size
 have hs1 := hW.size
 have hs2 := he.touch.size
 refine ⟨Y, rfl, k5.1, fun w2 W2 hf ht hb => ?_⟩
 have hs3 := hf.size
 refine ⟨?_, h.lp, h.ne, lab D2 w'.heap.size 40, Y, fun b hb => ?_, ?_, hs w2 W2 hf ht (hf.blk k5.1 (fun e => e)), ⟨hb, (lab_old k5.1.lt).trans k5.2⟩, ⟨ht.blk (hf.blk k3.1 (fun e => e)) h.ne.1, (lab_old k3.1.lt).trans k3.2⟩, ⟨ht.blk (hf.blk ka.1 (fun e => e)) h.ne.2, (lab_old ka.1.lt).trans ka.2⟩⟩
 ·refine (((h.fr.trans hW (fun _ _ e => e)).trans he.touch (fun b hb e => ?_)).trans hf (fun _ _ e => e)).trans ht (fun b hb e => ?_)
  ·unfold All at e
   rw [lab_old (show b < W.heap.size by omega), hD b hb] at e
   omega
  ·have e : b = p5 := e
   have := h.lp
   omega
 ·rw [lab_old (by omega), he.lab.1 b (by omega), lab_old (by omega), hD b hb]
 ·refine (he.at_.old hf (D' := lab D2 w'.heap.size 40) (fun b hb => lab_old hb)).far ht (fun b e => ?_) (fun _ _ => rfl)
  have e : b = p5 := e
  rw [e, lab_old k5.1.lt, k5.2]
  omega
theorem At.round (hc : Cf y0 y1 y2 y3 y4 y5) (hq : CfOf y0 y1 y2 y3 y4 y5 c) (htk : tk.length = 5) (h : At w0 y0 y1 y2 y3 y4 y5 T tk c n p5 p3 ga j W) (hj : j < 3) :
  ∃ X : Rn, Blk W p5 40 X.cells ∧ Blk W ga 79 (actB ++ actA ++ actN) ∧ ∀ W1, Fresh W W1 -> Calls Tryz.prog 20 #[.pointer (some ⟨n, 0, none⟩), .agg X.cells.toArray, .agg (acts j).toArray] W1 (RPost w0 y0 y1 y2 y3 y4 y5 T tk c n p5 p3 ga j X) := by
 obtain ⟨D, X, hD, he, hs, h5, h3, ha⟩ := h.ex
 refine ⟨X, h5.1, ha.1, fun W1 hW => ?_⟩
 have he1 := he.old hW (D' := lab D W.heap.size 40) (fun b hb => lab_old hb)
 obtain ⟨a0, a1, a2, a3, a4, a5⟩ := hc
 have hst := hq.start
 have hgr : gr c = (y5 + y1) % 16777216 := by unfold gr; rw [hq.start, hq.window]; omega
 -- what was made elsewhere stays
 have kp : ∀ {α : Type} {E : El α} {A : Option Addr} {ca : Nat} {l : List α} {D2 : Nat -> Nat} {w' : World} {z : En.X}, Sl E W A ca l -> (∀ ad, A = some ad -> D ad.block = 40) -> E.e ≠ 40 -> EndTo 0 (lab D W.heap.size 40) D2 W1 w' n z -> ∀ w2 W2, Fresh w' w2 -> Touch (· = p5) w2 W2 -> Blk w2 p5 40 X.cells -> Sl E W2 A ca l ∧ ∀ ad, A = some ad -> lab D2 w'.heap.size 40 ad.block = 40 := fun {α E A ca l D2 w' z} hsl hl hne het w2 W2 hf ht hb => by
  have h1 := hsl.touch hW (fun _ _ e => e)
  have hl1 : ∀ ad, A = some ad -> lab D W.heap.size 40 ad.block = 40 := fun ad e => (lab_old (hsl.lt ad e)).trans (hl ad e)
  have h2 := h1.touch het.touch (fun ad e e2 => by unfold All at e2; rw [hl1 ad e] at e2; omega)
  have h3 := h2.touch hf (fun _ _ e => e)
  exact ⟨h3.touch ht (fun ad e e2 => h3.blk_ne hb hne ad e e2), fun ad e => (lab_old (h2.lt ad e)).trans ((het.lab.1 _ (h1.lt ad e)).trans (hl1 ad e))⟩
 rcases (show j = 0 ∨ j = 1 ∨ j = 2 by omega) with rfl | rfl | rfl
 ·unfold Sh at hs
  rw [if_pos rfl] at hs
  obtain ⟨L, cL, rfl, hT, lT, hL, lL⟩ := hs
  have hr := hear5 c ((y5 + 31) % 16777216)
  have hr2 : (En.receive (En.new c) (bgU ((y5 + 31) % 16777216)) []) = (x1 c ((y5 + 31) % 16777216), [Cn.sig 1 false Cn.no]) := hr
  refine (step_bgn he1 fit_new y0 y1 y2 y3 y4 y5 T 5 (max 1 (min y0 16)) ((y5 + y1) % 16777216) L cL a5 ((y5 + 31) % 16777216) rfl (by show (En.receive (En.new c) _ []).2 = _; rw [hr2])).mono ?_
  rintro e w' ⟨rfl, D2, het⟩
  have het : EndTo 0 (lab D W.heap.size 40) D2 W1 w' n (En.receive (En.new c) (bgU ((y5 + 31) % 16777216)) []).1 := het
  rw [hr2] at het
  refine h.fin (D := D) hD h5 h3 ha hW het (fun w2 W2 hf ht hb => ?_)
  unfold Sh
  rw [if_neg (by decide), if_pos rfl]
  obtain ⟨t1, t2⟩ := kp hT lT (by decide) het w2 W2 hf ht hb
  obtain ⟨t3, t4⟩ := kp hL lL (by decide) het w2 W2 hf ht hb
  exact ⟨L, cL, rfl, t1, t2, t3, t4⟩
 ·unfold Sh at hs
  rw [if_neg (by decide), if_pos rfl] at hs
  obtain ⟨L, cL, rfl, hT, lT, hL, lL⟩ := hs
  refine (step_acc he1 (fit1 _) (Nat.zero_le _) rfl (accept5 hq.good _) y0 y1 y2 y3 y4 y5 T 5 tk L cL (max 1 (min y0 16)) ((y5 + y1) % 16777216) ((y5 + 31) % 16777216) 31 (hT.touch hW (fun _ _ e => e)) htk (hL.touch hW (fun _ _ e => e)) a5 a1 a2 a4 (by omega) (by decide)).mono ?_
  rintro e w' ⟨L', cL', A, cA, rfl, D2, het, hA⟩
  refine h.fin (D := D) hD h5 h3 ha hW het (fun w2 W2 hf ht hb => ?_)
  unfold Sh
  rw [if_neg (by decide), if_neg (by decide), if_pos rfl]
  have h3 := hA.touch hf (fun _ _ e => e)
  exact ⟨L', cL', A, cA, rfl, h3.touch ht (fun ad e e2 => h3.blk_ne hb (show rp06E.e ≠ 40 by decide) ad e e2)⟩
 ·unfold Sh at hs
  rw [if_neg (by decide), if_neg (by decide), if_pos rfl] at hs
  obtain ⟨L, cL, A, cA, rfl, hA⟩ := hs
  have hn : En.next (x2 c ((y5 + 31) % 16777216)) = (x3 c ((y5 + 31) % 16777216), some (bgak ((y5 + y1) % 16777216), [])) := by
   rw [next5]
   unfold ak
   rw [hgr]
   rfl
  refine (step_next he1 (fit2 _) ((y5 + y1) % 16777216) (by omega) ⟨[], by show [ak c] = _; unfold ak; rw [hgr]; rfl⟩ hn _ A cA rfl rfl rfl (hA.touch hW (fun _ _ e => e))).mono ?_
  rintro e w' ⟨A', c', rfl, D2, het⟩
  refine h.fin (D := D) hD h5 h3 ha hW het (fun w2 W2 hf ht hb => ?_)
  unfold Sh
  rw [if_neg (by decide), if_neg (by decide), if_neg (by decide)]
  exact ⟨rfl, rfl⟩
end
end Ope
set_option maxRecDepth 20000
set_option linter.constructorNameAsVariable false

namespace Ope
structure B where
 n : Nat
 q : Nd.C
 p5 : Nat
 L : Option Addr
 cL : Nat
structure OwW (w2 : World) (bc p3 g : Nat) (y0 y1 y2 y3 y4 y5 : Int) (tk : List Int) (b : B) (d : Nat -> Bool) (W : World) : Prop where
 fr : Fresh w2 W
 c1 : Blk W bc 24 (cfL y0 y1 y2 y3 y4 y5 (some ⟨g, 0, none⟩) 5)
 r3 : Blk W p3 40 rnZ
 ts : Sl intE W (some ⟨g, 0, none⟩) 5 tk
 lt : bc < w2.heap.size ∧ p3 < w2.heap.size ∧ g < w2.heap.size
 ex : ∃ D : Nat -> Nat, (∀ k, k < w2.heap.size -> D k = 40) ∧ (d 1 = true -> EndAt 0 D W b.n (En.new b.q) ∧ CfOf y0 y1 y2 y3 y4 y5 b.q) ∧ (d 3 = true -> Sl intE W b.L b.cL [0, 0, 0, 0, 0] ∧ ∀ ad, b.L = some ad -> D ad.block = 40) ∧
  (d 4 = true -> Blk W b.p5 40 (if d 6 = true then (rn0 y0 y1 y2 y3 y4 y5 (some ⟨g, 0, none⟩) 5 b.L b.cL).cells else rnZ) ∧ D b.p5 = 40 ∧ w2.heap.size <= b.p5)
section
variable {w2 W W' : World} {bc p3 g : Nat} {y0 y1 y2 y3 y4 y5 : Int} {tk : List Int} {b : B} {d : Nat -> Bool}
theorem OwW.read (h : OwW w2 bc p3 g y0 y1 y2 y3 y4 y5 tk b d W) {i : Nat} (hi : i = 0 ∨ i = 2 ∨ i = 5) : OwW w2 bc p3 g y0 y1 y2 y3 y4 y5 tk b (Dag.upd d i true) W := by
 obtain ⟨h1, h2, h3, h4, h5, D, e1, e2, e3, e4⟩ := h
 refine ⟨h1, h2, h3, h4, h5, D, e1, ?_, ?_, ?_⟩
 ·rw [Dag.upd_far _ _ (by omega)]; exact e2
 ·rw [Dag.upd_far _ _ (by omega)]; exact e3
 ·rw [Dag.upd_far _ _ (by omega), Dag.upd_far _ _ (by omega)]; exact e4
theorem OwW.start {q : Nd.C} {n : Nat} (h : OwW w2 bc p3 g y0 y1 y2 y3 y4 y5 tk b d W) (hn : NodeNw W W' n (Nd.S.new q)) (hk : CfOf y0 y1 y2 y3 y4 y5 q) : OwW w2 bc p3 g y0 y1 y2 y3 y4 y5 tk { b with n := n, q := q } (Dag.upd d 1 true) W' := by
 obtain ⟨h1, h2, h3, h4, h5, D, e1, e2, e3, e4⟩ := h
 obtain ⟨D', l1, a1⟩ := hn.end_ 0 D
 have hf := hn.fresh
 have hs := h1.size
 refine ⟨h1.trans hf (fun _ _ e => e), hf.blk h2 (fun e => e), hf.blk h3 (fun e => e), h4.touch hf (fun _ _ e => e), h5, D', fun k hk => (l1.1 k (by omega)).trans (e1 k hk), fun _ => ⟨a1, hk⟩, ?_, ?_⟩
 ·rw [Dag.upd_far _ _ (by decide)]
  exact fun e => ⟨(e3 e).1.touch hf (fun _ _ e => e), fun ad e2 => (l1.1 _ ((e3 e).1.lt ad e2)).trans ((e3 e).2 ad e2)⟩
 ·rw [Dag.upd_far _ _ (by decide), Dag.upd_far _ _ (by decide)]
  exact fun e => ⟨hf.blk (e4 e).1 (fun e => e), (l1.1 _ (e4 e).1.lt).trans (e4 e).2.1, (e4 e).2.2⟩
theorem OwW.newd {L : Option Addr} {cL : Nat} (h : OwW w2 bc p3 g y0 y1 y2 y3 y4 y5 tk b d W) (hs : Sl intE W' L cL [0, 0, 0, 0, 0]) (hn : ∀ ad, L = some ad -> W.heap.size <= ad.block) (hf : Fresh W W') (h6 : d 6 = false) : OwW w2 bc p3 g y0 y1 y2 y3 y4 y5 tk { b with L := L, cL := cL } (Dag.upd d 3 true) W' := by
 obtain ⟨h1, h2, h3, h4, h5, D, e1, e2, e3, e4⟩ := h
 have hz := h1.size
 refine ⟨h1.trans hf (fun _ _ e => e), hf.blk h2 (fun e => e), hf.blk h3 (fun e => e), h4.touch hf (fun _ _ e => e), h5, lab D W.heap.size 40, fun k hk => (lab_old (by omega)).trans (e1 k hk), ?_, fun _ => ⟨hs, fun ad e => lab_new (hn ad e)⟩, ?_⟩
 ·rw [Dag.upd_far _ _ (by decide)]
  exact fun e => ⟨(e2 e).1.old hf (fun b hb => lab_old hb), (e2 e).2⟩
 ·rw [Dag.upd_far _ _ (by decide), Dag.upd_far _ _ (by decide), h6]
  rw [h6] at e4
  exact fun e => ⟨hf.blk (e4 e).1 (fun e => e), (lab_old (e4 e).1.lt).trans (e4 e).2.1, (e4 e).2.2⟩
theorem OwW.box (h : OwW w2 bc p3 g y0 y1 y2 y3 y4 y5 tk b d W) (h6 : d 6 = false) : OwW w2 bc p3 g y0 y1 y2 y3 y4 y5 tk { b with p5 := W.heap.size } (Dag.upd d 4 true) (W.alloc (.cells rnZ.toArray 40)) := by
 obtain ⟨h1, h2, h3, h4, h5, D, e1, e2, e3, e4⟩ := h
 have hz := h1.size
 have hf : Fresh W (W.alloc (.cells rnZ.toArray 40)) := (Touch.refl _ _).alloc _
 refine ⟨h1.trans hf (fun _ _ e => e), hf.blk h2 (fun e => e), hf.blk h3 (fun e => e), h4.touch hf (fun _ _ e => e), h5, lab D W.heap.size 40, fun k hk => (lab_old (by omega)).trans (e1 k hk), ?_, ?_, ?_⟩
 ·rw [Dag.upd_far _ _ (by decide)]
  exact fun e => ⟨(e2 e).1.old hf (fun b hb => lab_old hb), (e2 e).2⟩
 ·rw [Dag.upd_far _ _ (by decide)]
  exact fun e => ⟨(e3 e).1.touch hf (fun _ _ e => e), fun ad e2 => (lab_old ((e3 e).1.lt ad e2)).trans ((e3 e).2 ad e2)⟩
 ·intro _
  rw [Dag.upd_far _ _ (show (6 : Nat) ≠ 4 by decide), h6]
  exact ⟨Blk.new W _ rnZ, lab_new (Nat.le_refl _), hz⟩
theorem OwW.at5 (h : OwW w2 bc p3 g y0 y1 y2 y3 y4 y5 tk b d W) (h4 : d 4 = true) (h6 : d 6 = false) : Blk W b.p5 40 rnZ := by
 obtain ⟨D, -, -, -, e4⟩ := h.ex
 have := (e4 h4).1
 rw [if_neg (by rw [h6]; decide)] at this
 exact this
theorem OwW.there (h : OwW w2 bc p3 g y0 y1 y2 y3 y4 y5 tk b d W) (h4 : d 4 = true) (h6 : d 6 = false) : W.there b.p5 0 43 := (h.at5 h4 h6).there_at 0 (Nat.le_of_ble_eq_true rfl)
theorem OwW.put (h : OwW w2 bc p3 g y0 y1 y2 y3 y4 y5 tk b d W) (h4 : d 4 = true) (h6 : d 6 = false) : OwW w2 bc p3 g y0 y1 y2 y3 y4 y5 tk b (Dag.upd d 6 true) (W.setCells b.p5 0 (rn0 y0 y1 y2 y3 y4 y5 (some ⟨g, 0, none⟩) 5 b.L b.cL).cells) := by
 have hB := h.at5 h4 h6
 have ht : Touch (· = b.p5) W (W.setCells b.p5 0 (rn0 y0 y1 y2 y3 y4 y5 (some ⟨g, 0, none⟩) 5 b.L b.cL).cells) := Touch.setCells (S := (· = b.p5)) rfl _ _ (Touch.refl _ _)
 obtain ⟨h1, h2, h3, h4', h5, D, e1, e2, e3, e4⟩ := h
 obtain ⟨-, f2, f3⟩ := e4 h4
 refine ⟨h1.trans ht (fun k hk e => ?_), ht.blk h2 (fun e => ?_), ht.blk h3 (fun e => ?_), h4'.touch ht (fun ad e e2 => h4'.blk_ne hB (show intE.e ≠ 40 by decide) ad e e2), h5, D, e1, ?_, ?_, ?_⟩
 ·have e : k = b.p5 := e
  omega
 ·have e : bc = b.p5 := e
  omega
 ·have e : p3 = b.p5 := e
  omega
 ·rw [Dag.upd_far _ _ (by decide)]
  exact fun e => ⟨(e2 e).1.far ht (fun k hk => by have hk : k = b.p5 := hk; rw [hk, f2]; omega) (fun _ _ => rfl), (e2 e).2⟩
 ·rw [Dag.upd_far _ _ (by decide)]
  exact fun e => ⟨(e3 e).1.touch ht (fun ad e4 e5 => (e3 e).1.blk_ne hB (show intE.e ≠ 40 by decide) ad e4 e5), (e3 e).2⟩
 ·rw [Dag.upd_far _ _ (by decide), Dag.upd_same, if_pos rfl]
  exact fun _ => ⟨hB.setCells (cs := rnZ) rfl, f2, f3⟩
end
end Ope
def owslot (i : Nat) : Nat := [12, 13, 14, 15, 5, 4, 1006].getD i 2000
def owidx (k : Nat) : Nat := [0, 0, 0, 0, 5, 4, 0, 0, 0, 0, 0, 0, 0, 1, 2, 3].getD k 0
def owD : List Nat := [4, 5, 12, 13, 14, 15]
def owval (_bc : Nat) (g : Nat) (y0 y1 y2 y3 y4 y5 : Int) (b : Ope.B) (i : Nat) : Value := [.agg (cfL y0 y1 y2 y3 y4 y5 (some ⟨g, 0, none⟩) 5).toArray, .pointer (some ⟨b.n, 0, none⟩), .agg (cfL y0 y1 y2 y3 y4 y5 (some ⟨g, 0, none⟩) 5).toArray, .agg (rn0 y0 y1 y2 y3 y4 y5 (some ⟨g, 0, none⟩) 5 b.L b.cL).cells.toArray, .pointer (some ⟨b.p5, 0, none⟩), .pointer (some ⟨b.n, 0, none⟩), undef].getD i undef
def actZ : List Value := [.int .i64 0, .int .i64 0, .int .i64 0, .int .i64 0, .int .i64 0, .int .i64 0, .int .i64 0, .int .i64 0, .slice none 0 0, .string { data := #[] }]
theorem Ope.acts_len (j : Nat) : (Ope.acts j).length = 10 := by
 unfold Ope.acts
 split
 ·rfl
 ·split <;> rfl
theorem Ope.acts_one (j : Nat) : ∀ v ∈ Ope.acts j, v.oneCell' = true := by
 unfold Ope.acts
 split
 ·simp [actB, Value.oneCell']
 ·split <;> simp [actA, actN, Value.oneCell']
theorem Ope.acts_at {j : Nat} (h : j < 3) : ((actB ++ actA ++ actN).drop (j * 10)).take (Ope.acts j).length = Ope.acts j := by
 rcases (show j = 0 ∨ j = 1 ∨ j = 2 by omega) with rfl | rfl | rfl <;> rfl
def ozslot (i : Nat) : Nat := [40, 41, 2, 1003].getD i 2000
def ozidx (k : Nat) : Nat := if k = 40 then 0 else if k = 41 then 1 else 2
def ozD : List Nat := [2, 40, 41]
def ozval (n : Nat) (X : Rn) (_b : Unit) (i : Nat) : Value := [.pointer (some ⟨n, 0, none⟩), .agg X.cells.toArray, .pointer (some ⟨n, 0, none⟩), undef].getD i undef
def ozWD (wE : World) (p3 p5 : Nat) (X : Rn) (_b : Unit) (d : Nat -> Bool) (W : World) : Prop := Touch (· = p3) wE W ∧ Blk W p5 40 X.cells ∧ Blk W p3 40 (if d 3 = true then X.cells else rnZ)
theorem ozWD.upd {wE : World} {p3 p5 : Nat} {X : Rn} {b : Unit} {d : Nat -> Bool} {W : World} (h : ozWD wE p3 p5 X b d W) {i : Nat} (hi : i ≠ 3) : ozWD wE p3 p5 X b (Dag.upd d i true) W := by
 unfold ozWD
 rw [Dag.upd_far _ _ (Ne.symm hi)]
 exact h
theorem opened_any (x0 x1 x2 x3 x4 x5 : Int) (A : Option Addr) (c : Nat) (L : List Int) (w : World) (h : Rd intE w A c L) :
  Calls Tryz.prog 7 #[.agg #[.int .i64 x0, .int .i64 x1, .int .i64 x2, .int .i64 x3, .int .i64 x4, .int .i64 x5, .slice A L.length c]] w fun e w' => ∃ n q X D, e = .returned (.tuple #[.pointer (some ⟨n, 0, none⟩), .agg (Rn.cells X).toArray]) ∧
   Ope.CfOf (max 1 (min x0 16)) (max 1 (min x1 64)) (max 1 (min x2 256)) (max 1 (min x3 64)) (max 1 (min x4 256)) (x5 % 16777216) q ∧ (X.y2 = max 1 (min x2 256) ∧ X.y3 = max 1 (min x3 64)) ∧ EndAt 0 D w' n (Ope.x3 q ((x5 % 16777216 + 31) % 16777216)) ∧ (∀ b, b < w.heap.size -> D b = 40) ∧ Fresh w w' := by
 have HR := lh h
 have HRI : Hid (∀ W, Fresh w W -> Calls Tryz.prog 10 #[.agg #[.int .i64 x0, .int .i64 x1, .int .i64 x2, .int .i64 x3, .int .i64 x4, .int .i64 x5, .slice A L.length c]] W (Right16 W x0 x1 x2 x3 x4 x5)) := fun W hW => right16_any x0 x1 x2 x3 x4 x5 A c L W (HR.out.touch hW (fun _ _ _ e => e))
 clear h HR
 unfold Right16 at HRI
 have HCF : Hid (Ope.Cf (max 1 (min x0 16)) (max 1 (min x1 64)) (max 1 (min x2 256)) (max 1 (min x3 64)) (max 1 (min x4 256)) (x5 % 16777216)) := ⟨by omega, by omega, by omega, by omega, by omega, by omega⟩
 obtain ⟨cin, hcin⟩ : ∃ cin : List Value, cin = [.int .i64 x0, .int .i64 x1, .int .i64 x2, .int .i64 x3, .int .i64 x4, .int .i64 x5, .slice A L.length c] := ⟨_, rfl⟩
 obtain ⟨y0, hy0⟩ := qx (max 1 (min x0 16))
 obtain ⟨y1, hy1⟩ := qx (max 1 (min x1 64))
 obtain ⟨y2, hy2⟩ := qx (max 1 (min x2 256))
 obtain ⟨y3, hy3⟩ := qx (max 1 (min x3 64))
 obtain ⟨y4, hy4⟩ := qx (max 1 (min x4 256))
 obtain ⟨y5, hy5⟩ := qx (x5 % 16777216)
 rw [hy0, hy1, hy2, hy3, hy4, hy5] at HRI HCF ⊢
 clear hy0 hy1 hy2 hy3 hy4 hy5
 have hcin2 : cin.toArray = #[.int .i64 x0, .int .i64 x1, .int .i64 x2, .int .i64 x3, .int .i64 x4, .int .i64 x5, .slice A L.length c] := by rw [hcin]
 have HC1 : Hid (∀ v ∈ cin, v.oneCell' = true) := by rw [hcin]; unfold Hid; simp [Value.oneCell']
 have HCL : Hid (cin.length = 7) := by rw [hcin]; rfl
 rw [<- hcin2] at HRI ⊢
 obtain ⟨w1, hw1⟩ := xq ((w.alloc (.cells cin.toArray 24)).alloc (.cells rnZ.toArray 40))
 have HX : Hid (FB (FF w) [w.heap.size, w.heap.size + 1] w w1 [⟨w.heap.size, 24, cin⟩, ⟨w.heap.size + 1, 40, rnZ⟩]) := by rw [hw1]; exact ((FB.nil w (fun k e => e)).al _ cin _ (by simp)).al _ rnZ _ (by simp)
 clear hcin hcin2
 unfold rnZ at hw1
 go_enter Tryz.func7, Tryz.ntmps7
 go_upto_region 1 with (fail)
 rw [<- hw1]
 clear hw1
 generalize hg : w.heap.size = bc at *
 refine wp_region_lit ?_
 refine wpList_loadB rfl _ (.tmp 1) rfl bc 0 (by rfl) cin (HX.out.at_ 0 rfl).range Tryz.underlying24 rfl (by rw [HCL.out]; exact cfI) ?_
 go_wp2_with fail
 refine (HRI.out _ HX.out.ff).mono ?_
 rintro e w2 ⟨g, c0, c1, c2, c3, c4, rfl, hs, -, hf, hgn⟩
 have HGN : Hid (bc <= g) := by have h1 : bc < w1.heap.size := (HX.out.at_ 0 rfl).lt; unfold Hid; omega
 have HX := lh (HX.out.fresh hf)
 have HS := lh hs
 clear hs hf hgn HRI
 simp only
 go_upto_region 2 with (refine wpList_storeB rfl _ (.tmp 1) (.tmp 11) rfl bc 0 (by rfl) (cfL y0 y1 y2 y3 y4 y5 (some ⟨g, 0, none⟩) 5) (by rfl) (HX.out.at_ 0 rfl) (by rw [HCL.out]; exact Nat.le_of_ble_eq_true rfl) cfI (by simp [cfL, Value.oneCell']) ?_; intro w3 hB ht; have HS := lh (HS.out.touch ht (fun ad e e2 => HS.out.blk_ne (HX.out.at_ 0 rfl) (show intE.e ≠ 24 by decide) ad e e2)); have HX := lh (HX.out.put 0 rfl (cs := cfL y0 y1 y2 y3 y4 y5 (some ⟨g, 0, none⟩) 5) (hB.eq_cells (by rw [List.take_zero, List.nil_append, List.drop_eq_nil_of_le (by rw [HCL.out]; exact Nat.le_of_ble_eq_true rfl), List.append_nil])) ht); clear hB ht)
 have HX2 : Hid (FB (FF w) [bc, bc + 1] w w3 [⟨bc, 24, cfL y0 y1 y2 y3 y4 y5 (some ⟨g, 0, none⟩) 5⟩, ⟨bc + 1, 40, rnZ⟩]) := HX.out
 clear HX HC1 HCL
 have HX := HX2
 clear HX2
 generalize hp3 : bc + 1 = p3 at *
 have HP3 : Hid (p3 = bc + 1) := hp3.symm
 clear hp3
 generalize htk : [c0, c1, c2, c3, c4] = tk at *
 have HTK : Hid (tk.length = 5) := by rw [<- htk]; rfl
 clear htk
 have HST : Hid (∀ W, Fresh w3 W -> Calls Tryz.prog 8 #[.agg (cfL y0 y1 y2 y3 y4 y5 (some ⟨g, 0, none⟩) 5).toArray] W fun e w' => ∃ n q, e = .returned (.pointer (some ⟨n, 0, none⟩)) ∧ NodeNw W w' n (Nd.S.new q) ∧ Ope.CfOf y0 y1 y2 y3 y4 y5 q) := fun W hW => by
  have hrd := Sl.rd (HS.out.touch hW (fun _ _ e => e))
  have := nstart_any y0 y1 y2 y3 y4 y5 (some ⟨g, 0, none⟩) 5 tk W hrd
  rw [HTK.out] at this
  refine this.mono ?_
  rintro e w' ⟨n, d0, d1, d2, d3, d4, rfl, hg, hn⟩
  obtain ⟨a0, a1, a2, a3, a4, a5⟩ := HCF.out
  exact ⟨n, _, rfl, hn, hg, by show max 1 (min y0 16) = y0; omega, by show max 1 (min y1 64) = y1; omega, by show max 1 (min y2 256) = y2; omega, by show max 1 (min y3 64) = y3; omega, by show max 1 (min y4 256) = y4; omega, by show y5 % 16777216 = y5; omega⟩
 have HNW := lh (fun W => rnew_any16 y0 y1 y2 y3 y4 y5 (some ⟨g, 0, none⟩) 5 W (by have := HCF.out.h1; have := HCF.out.h5; omega))
 have HINJ : Hid (∀ i, i < 7 -> ∀ j, j < 7 -> owslot i = owslot j -> i = j) := by
  show ∀ i, i < 7 -> ∀ j, j < 7 -> owslot i = owslot j -> i = j
  decide +kernel
 have HFD : Hid (∀ k, k ∈ owD -> owidx k < 7 ∧ owslot (owidx k) = k) := by
  show ∀ k, k ∈ owD -> owidx k < 7 ∧ owslot (owidx k) = k
  decide +kernel
 have ht0 : Fresh w3 w3.drew := (Touch.refl _ _).drew
 have HLT : Hid (bc < w3.heap.size ∧ p3 < w3.heap.size ∧ g < w3.heap.size) := ⟨(HX.out.at_ 0 rfl).lt, (HX.out.at_ 1 rfl).lt, HS.out.lt _ rfl⟩
 refine Dag.detG (by kernel_rfl) 7 owD owslot (owval bc g y0 y1 y2 y3 y4 y5) (Ope.OwW w3 bc p3 g y0 y1 y2 y3 y4 y5 tk) (⟨0, ⟨0, 0, 0, 0, 0, 0, 0, 0, 0, 0, 0⟩, 0, none, 0⟩ : Ope.B) (fun b k => owval bc g y0 y1 y2 y3 y4 y5 b (owidx k)) (by rfl) (fun i j hi hj => HINJ.out i hi j hj) (by decide +kernel) ⟨ht0, ht0.blk (HX.out.at_ 0 rfl) (fun e => e), ht0.blk (HX.out.at_ 1 rfl) (fun e => e), HS.out.touch ht0 (fun _ _ e => e), HLT.out, fun _ => 40, fun _ _ => rfl, fun e => (by cases e), fun e => (by cases e), fun e => (by cases e)⟩ (by decide +kernel)
  (by refine ⟨?_, ?_, ?_, ?_, ?_, ?_, ?_, trivial⟩ <;> first | exact .inl rfl | exact .inr ⟨_, _, rfl, by decide +kernel, by decide, by decide, Nat.le_of_ble_eq_true rfl, by rfl, fun b => rfl⟩)
  ⟨?_, ?_, ?_, ?_, ?_, ?_, ?_, trivial⟩ (fun b k hk => ⟨owidx k, (HFD.out k hk).1, (HFD.out k hk).2, rfl⟩) ?_
 ·refine Dag.PStep2.pure 12 rfl rfl (by decide) (fun b dn W h => h.read (by decide)) (fun b dn R W hp hm hW => ?_)
  have q1 : R.eval (.tmp 1) = .pointer (some ⟨bc, 0, none⟩) := hm.old 1 (by decide)
  exact exec_loadB rfl q1 hW.c1.range Tryz.underlying24 rfl cfI
 ·refine ⟨fun s hs => (by cases hs; exact ⟨rfl, by decide⟩), fun b dn R W hi hp hcl hm hW => ?_⟩
  have q12 : R.eval (.tmp 12) = .agg (cfL y0 y1 y2 y3 y4 y5 (some ⟨g, 0, none⟩) 5).toArray := hm.got 0 (by decide) (hp 0 (by decide +kernel)) (by decide) (Nat.le_of_ble_eq_true rfl)
  have qf : R.eval (.func 8) = .func (.func 8) #[] #[] := hm.cst _ (fun k e => by cases e)
  have h5 : dn 5 = false := by
   cases e : dn 5 with
   |false => rfl
   |true => have := hcl 5 1 (by decide +kernel) e; rw [hi] at this; cases this
  refine .call 13 rfl 8 #[.agg (cfL y0 y1 y2 y3 y4 y5 (some ⟨g, 0, none⟩) 5).toArray] ?_ ((HST.out W hW.fr).mono ?_)
  ·clear hi hp hcl hm hW
   generalize (cfL y0 y1 y2 y3 y4 y5 (some ⟨g, 0, none⟩) 5).toArray = V1 at *
   unfold execOp
   generalize R.eval = ρ at *
   go_simp
  ·rintro e w' ⟨n, q, rfl, hn, hk⟩
   refine ⟨_, rfl, { b with n := n, q := q }, rfl, fun j hj hdj => ?_, hW.start hn hk⟩
   rcases (show j = 0 ∨ j = 1 ∨ j = 2 ∨ j = 3 ∨ j = 4 ∨ j = 5 ∨ j = 6 by omega) with rfl | rfl | rfl | rfl | rfl | rfl | rfl <;> first | rfl | (rw [hi] at hdj; cases hdj) | (rw [h5] at hdj; cases hdj)
 ·refine Dag.PStep2.pure 14 rfl rfl (by decide) (fun b dn W h => h.read (by decide)) (fun b dn R W hp hm hW => ?_)
  have q1 : R.eval (.tmp 1) = .pointer (some ⟨bc, 0, none⟩) := hm.old 1 (by decide)
  exact exec_loadB rfl q1 hW.c1.range Tryz.underlying24 rfl cfI
 ·refine ⟨fun s hs => (by cases hs; exact ⟨rfl, by decide⟩), fun b dn R W hi hp hcl hm hW => ?_⟩
  have q14 : R.eval (.tmp 14) = .agg (cfL y0 y1 y2 y3 y4 y5 (some ⟨g, 0, none⟩) 5).toArray := hm.got 2 (by decide) (hp 2 (by decide +kernel)) (by decide) (Nat.le_of_ble_eq_true rfl)
  have qf : R.eval (.func 9) = .func (.func 9) #[] #[] := hm.cst _ (fun k e => by cases e)
  have h6 : dn 6 = false := by
   cases e : dn 6 with
   |false => rfl
   |true => have := hcl 6 3 (by decide +kernel) e; rw [hi] at this; cases this
  refine .call 15 rfl 9 #[.agg (cfL y0 y1 y2 y3 y4 y5 (some ⟨g, 0, none⟩) 5).toArray] ?_ ((HNW.out W).mono ?_)
  ·clear hi hp hcl hm hW
   generalize (cfL y0 y1 y2 y3 y4 y5 (some ⟨g, 0, none⟩) 5).toArray = V1 at *
   unfold execOp
   generalize R.eval = ρ at *
   go_simp
  ·rintro e w' ⟨L, cL, rfl, ⟨hs, hn⟩, hf⟩
   refine ⟨_, rfl, { b with L := L, cL := cL }, rfl, fun j hj hdj => ?_, hW.newd hs hn hf h6⟩
   rcases (show j = 0 ∨ j = 1 ∨ j = 2 ∨ j = 3 ∨ j = 4 ∨ j = 5 ∨ j = 6 by omega) with rfl | rfl | rfl | rfl | rfl | rfl | rfl <;> first | rfl | (rw [hi] at hdj; cases hdj) | (rw [h6] at hdj; cases hdj)
 ·refine ⟨fun s hs => (by cases hs; exact ⟨rfl, by decide⟩), fun b dn R W hi hp hcl hm hW => ?_⟩
  have h6 : dn 6 = false := by
   cases e : dn 6 with
   |false => rfl
   |true => have := hcl 6 4 (by decide +kernel) e; rw [hi] at this; cases this
  refine .value 5 rfl (.pointer (some ⟨W.heap.size, 0, none⟩)) (W.alloc (.cells rnZ.toArray 40)) ?_ ⟨{ b with p5 := W.heap.size }, rfl, fun j hj hdj => ?_, hW.box h6⟩
  ·clear hi hp hcl hm hW
   unfold execOp rnZ
   generalize R.eval = ρ at *
   go_simp
   try rfl
  ·rcases (show j = 0 ∨ j = 1 ∨ j = 2 ∨ j = 3 ∨ j = 4 ∨ j = 5 ∨ j = 6 by omega) with rfl | rfl | rfl | rfl | rfl | rfl | rfl <;> first | rfl | (rw [hi] at hdj; cases hdj)
 ·refine Dag.PStep2.pure 4 rfl rfl (by decide) (fun b dn W h => h.read (by decide)) (fun b dn R W hp hm hW => ?_)
  have q13 : R.eval (.tmp 13) = .pointer (some ⟨b.n, 0, none⟩) := hm.got 1 (by decide) (hp 1 (by decide +kernel)) (by decide) (Nat.le_of_ble_eq_true rfl)
  clear hp hm hW
  show (execOp R.eval _).run Tryz.prog W = .ok (.value (.pointer (some ⟨b.n, 0, none⟩))) W
  unfold execOp
  generalize R.eval = ρ at *
  go_simp
 ·refine ⟨fun s hs => (by cases hs), fun b dn R W hi hp hcl hm hW => ?_⟩
  have q5 : R.eval (.tmp 5) = .pointer (some ⟨b.p5, 0, none⟩) := hm.got 4 (by decide) (hp 4 (by decide +kernel)) (by decide) (Nat.le_of_ble_eq_true rfl)
  have q15 : R.eval (.tmp 15) = .agg (rn0 y0 y1 y2 y3 y4 y5 (some ⟨g, 0, none⟩) 5 b.L b.cL).cells.toArray := hm.got 3 (by decide) (hp 3 (by decide +kernel)) (by decide) (Nat.le_of_ble_eq_true rfl)
  refine .skip rfl undef (W.setCells b.p5 0 (rn0 y0 y1 y2 y3 y4 y5 (some ⟨g, 0, none⟩) 5 b.L b.cL).cells) (exec_storeB rfl q5 q15 (hW.there (hp 4 (by decide +kernel)) hi) rnI (rnO _)) ⟨b, rfl, fun _ _ _ => rfl, hW.put (hp 4 (by decide +kernel)) hi⟩
 ·intro b dn w4 hd hW
  have hfr := hW.fr
  have hr3 := hW.r3
  have hts := hW.ts
  obtain ⟨D, e1, e2, e3, e4⟩ := hW.ex
  obtain ⟨ha, hk⟩ := e2 (hd 1 (by decide))
  obtain ⟨hl, hll⟩ := e3 (hd 3 (by decide))
  obtain ⟨h5, h5l, h5n⟩ := e4 (hd 4 (by decide))
  rw [if_pos (hd 6 (by decide))] at h5
  obtain ⟨n, q, p5, L1, cL1⟩ := b
  dsimp only at ha hk hl hll h5 h5l h5n
  have HFR : Hid (Fresh w w4) := HX.out.ff.trans hfr (fun _ _ e => e)
  have HEA : Hid (∃ D, (∀ k, k < w3.heap.size -> D k = 40) ∧ EndAt 0 D w4 n (En.new q) ∧ (∀ ad, L1 = some ad -> D ad.block = 40) ∧ D p5 = 40) := ⟨D, e1, ha, hll, h5l⟩
  have HKK := lh hk
  have HL1 := lh hl
  have HTS := lh hts
  have HB5 := lh h5
  have HB3 := lh hr3
  have H5N : Hid (w3.heap.size <= p5) := h5n
  have HSZ : Hid (w.heap.size <= w3.heap.size) := HX.out.ff.size
  clear hW hd hfr hr3 hts e1 e2 e3 e4 ha hk hl hll h5 h5l h5n HINJ HFD HST HNW HX HS
  simp only [owD, Dag.actOf, List.foldl_cons, List.foldl_nil, owval, owidx]
  generalize (rn0 y0 y1 y2 y3 y4 y5 (some ⟨g, 0, none⟩) 5 L1 cL1).cells.toArray = V1
  generalize (cfL y0 y1 y2 y3 y4 y5 (some ⟨g, 0, none⟩) 5).toArray = V2
  go_simp
  go_upto_block 0 with (fail)
  obtain ⟨w5, hw5⟩ := xq (w4.alloc (.cells #[.int .i64 0, .int .i64 0, .int .i64 0, .int .i64 2, .int .i64 5, .int .i64 0, .int .i64 31, .int .i64 0, .slice none 0 0, .string { data := #[] }, .int .i64 1, .int .i64 2, .int .i64 0, .int .i64 0, .int .i64 0, .int .i64 0, .int .i64 0, .int .i64 0, .slice none 0 0, .string { data := #[] }, .int .i64 3, .int .i64 0, .int .i64 0, .int .i64 0, .int .i64 0, .int .i64 0, .int .i64 0, .int .i64 0, .slice none 0 0, .string { data := #[] }] 79))
  have hf5 : Fresh w4 w5 := by rw [hw5]; exact (Touch.refl _ _).alloc _
  have ha5 : Blk w5 w4.heap.size 79 (actB ++ actA ++ actN) := by rw [hw5]; exact Blk.new w4 79 (actB ++ actA ++ actN)
  have HA0 : Hid (Ope.At w y0 y1 y2 y3 y4 y5 (some ⟨g, 0, none⟩) tk q n p5 p3 w4.heap.size 0 w5) := by
   obtain ⟨D, e1, ha, hll, h5l⟩ := HEA.out
   have h1 := HSZ.out
   have h2 := H5N.out
   have h3 := HB5.out.lt
   have h4 := HLT.out
   have h6 := HFR.out.size
   refine ⟨HFR.out.trans hf5 (fun _ _ e => e), by omega, ⟨by omega, by omega⟩, lab D w4.heap.size 40, rn0 y0 y1 y2 y3 y4 y5 (some ⟨g, 0, none⟩) 5 L1 cL1, fun b hb => (lab_old (by omega)).trans (e1 b (by omega)), ha.old hf5 (fun b hb => lab_old hb), ?_, ⟨hf5.blk HB5.out (fun e => e), (lab_old h3).trans h5l⟩, ⟨hf5.blk HB3.out (fun e => e), (lab_old HB3.out.lt).trans (e1 _ h4.2.1)⟩, ⟨ha5, lab_new (Nat.le_refl _)⟩⟩
   unfold Ope.Sh
   rw [if_pos rfl]
   exact ⟨L1, cL1, rfl, HTS.out.touch hf5 (fun _ _ e => e), fun ad e => (lab_old (HTS.out.lt ad e)).trans (by injection e with e; rw [<- e]; exact e1 _ h4.2.2), HL1.out.touch hf5 (fun _ _ e => e), fun ad e => (lab_old (HL1.out.lt ad e)).trans (hll ad e)⟩
  rw [<- hw5]
  clear hw5 hf5 ha5 HEA HSZ H5N HB5 HB3 HTS HL1 HFR HLT HGN
  generalize w4.heap.size = ga at *
  go_wp2_with fail
  go_loopw [24] (fun i wr => ∃ j : Nat, j <= 3 ∧ i = .int .i64 j ∧ Hid (Ope.At w y0 y1 y2 y3 y4 y5 (some ⟨g, 0, none⟩) tk q n p5 p3 ga j wr)) (fun i _ => 3 - (intOf i).toNat)
  case atStart => exact ⟨0, by omega, rfl, HA0.out⟩
  case round =>
   clear HA0
   obtain ⟨j, hj, rfl, HAJ⟩ := hrel
   by_cases hlt : j < 3
   ·have hj1 : (j : Int) < 3 := by omega
    have hj0 : (0 : Int) <= (j : Int) := by omega
    obtain ⟨X, hX, hga, hcall⟩ := HAJ.out.round HCF.out HKK.out HTK.out hlt
    have HX := lh hX
    have HCALL := lh hcall
    have HG : Hid (wr.rangeAt ga (j * 10) (Ope.acts j)) := hga.range_at (j * 10) (sub_at _ (Ope.acts_at hlt))
    have HAO : Hid (∀ v ∈ Ope.acts j, v.oneCell' = true) := Ope.acts_one j
    have hal : (Ope.acts j).length = 10 := Ope.acts_len j
    clear hX hga hcall HAJ
    generalize Ope.acts j = AJ at *
    go_upto_region 8 with (first
     |(refine wpList_loadB rfl _ (.tmp 26) rfl ga (j * 10) (by rfl) AJ HG.out Tryz.underlying79 rfl (by rw [hal]; exact actI) ?_)
     |(refine wpList_storeB rfl _ (.tmp 7) (.tmp 27) rfl wr.heap.size 0 (by rfl) AJ (by rfl) (Blk.new wr 79 actZ) (by rw [hal]; exact Nat.le_of_ble_eq_true rfl) (by rw [hal]; exact actI) HAO.out ?_; intro w6 hB ht; have HB7 : Hid (Blk w6 wr.heap.size 79 AJ) := hB.eq_cells (by rw [List.take_zero, List.nil_append, List.drop_eq_nil_of_le (by rw [hal]; exact Nat.le_of_ble_eq_true rfl), List.append_nil]); have HF6 : Hid (Fresh wr w6) := ((Touch.refl _ wr).alloc (.cells actZ.toArray 79)).trans ht (fun b hb e => by have e : b = wr.heap.size := e; omega); clear hB ht))
    generalize wr.heap.size = b7 at *
    have HX6 := lh (HF6.out.blk HX.out (fun e => e))
    clear HX HG
    refine wp_region_lit ?_
    go_wp2_with (first
     |(refine ldN rfl (.tmp 5) rfl (by rfl) (y := X) HX6.out ?_)
     |(refine wpList_loadB rfl _ (.tmp 7) rfl b7 0 (by rfl) AJ HB7.out.range Tryz.underlying79 rfl (by rw [hal]; exact actI) ?_))
    refine (HCALL.out _ HF6.out).mono ?_
    rintro e w7 ⟨Y, rfl, hb5, hat⟩
    have HB5 := lh hb5
    have HAT := lh hat
    clear hb5 hat HCALL HX6 HB7 HF6 HAO hal
    simp only
    go_upto_region 9 with (refine stN rfl (.tmp 8) (.tmp 33) rfl (by rfl) Y (by rfl) (Blk.new w7 40 rnZ) rfl ?_; intro w8 hB ht; have HB8 : Hid (Blk w8 w7.heap.size 40 Y.cells) := hB; have HF8 : Hid (Fresh w7 w8) := ((Touch.refl _ w7).alloc (.cells rnZ.toArray 40)).trans ht (fun b hb e => by have e : b = w7.heap.size := e; omega); clear hB ht)
    generalize w7.heap.size = b8 at *
    have HB58 := lh (HF8.out.blk HB5.out (fun e => e))
    clear HB5
    go_upto_region 12 with (first
     |(refine ldN rfl (.tmp 8) rfl (by rfl) (y := Y) HB8.out ?_)
     |(refine stN rfl (.tmp 5) (.tmp 38) rfl (by rfl) Y (by rfl) HB58.out rfl ?_; intro w9 hB ht; have HA9 := lh (HAT.out w8 w9 HF8.out ht hB); clear hB ht))
    clear HAT HB58 HB8 HF8
    go_wp2_with fail
    go_roundw
    case rel => exact ⟨j + 1, by omega, by go_num, HA9.out⟩
    case measure => simp [intOf]; omega
   ·obtain rfl : j = 3 := by omega
    rw [show ((3 : Nat) : Int) = 3 from rfl]
    go_upto_region 13 with (fail)
    obtain ⟨D, X, hD, he, hs, h5, h3, ha⟩ := HAJ.out.ex
    have hz : Ope.zs q ((y5 + 31) % 16777216) 3 = Ope.x3 q ((y5 + 31) % 16777216) := rfl
    rw [hz] at he
    unfold Ope.Sh at hs
    rw [if_neg (by decide), if_neg (by decide), if_neg (by decide)] at hs
    have HE := lh he
    have H5 := lh h5
    have H3 := lh h3
    have HSH := lh hs
    have HDD := lh hD
    have HFW := lh HAJ.out.fr
    have HNE := lh HAJ.out.ne
    clear hD he hs h5 h3 ha hz HAJ
    have HINJ : Hid (∀ i, i < 4 -> ∀ j, j < 4 -> ozslot i = ozslot j -> i = j) := by
     show ∀ i, i < 4 -> ∀ j, j < 4 -> ozslot i = ozslot j -> i = j
     decide +kernel
    have HFD : Hid (∀ k, k ∈ ozD -> ozidx k < 4 ∧ ozslot (ozidx k) = k) := by
     show ∀ k, k ∈ ozD -> ozidx k < 4 ∧ ozslot (ozidx k) = k
     decide +kernel
    have ht0 : Fresh wr wr.drew := (Touch.refl _ _).drew
    refine Dag.detP (by kernel_rfl) 4 ozD ozslot (ozval n X) (ozWD wr p3 p5 X) () (fun b k => ozval n X b (ozidx k)) (by rfl) (fun i j hi hj => HINJ.out i hi j hj) (by decide +kernel) ⟨ht0.mono (fun _ _ e => e.elim), ht0.blk H5.out.1 (fun e => e), ht0.blk H3.out.1 (fun e => e)⟩ (by decide +kernel)
     ⟨?_, ?_, ?_, ?_, trivial⟩ (fun b k hk => ⟨ozidx k, (HFD.out k hk).1, (HFD.out k hk).2, rfl⟩) ?_
    ·refine Dag.PStep.pure 40 rfl rfl rfl (by decide) (fun b dn W H => H.upd (by decide)) (fun b dn R W hp hm hW => ?_)
     have q4 : R.eval (.tmp 4) = .pointer (some ⟨n, 0, none⟩) := hm.old 4 (by decide)
     clear hp hm hW
     show (execOp R.eval _).run Tryz.prog W = .ok (.value (.pointer (some ⟨n, 0, none⟩))) W
     unfold execOp
     generalize R.eval = ρ at *
     go_simp
    ·refine Dag.PStep.pure 41 rfl rfl rfl (by decide) (fun b dn W H => H.upd (by decide)) (fun b dn R W hp hm hW => ?_)
     have q5 : R.eval (.tmp 5) = .pointer (some ⟨p5, 0, none⟩) := hm.old 5 (by decide)
     exact exec_loadB rfl q5 hW.2.1.range Tryz.underlying40 rfl rnI
    ·refine Dag.PStep.pure 2 rfl rfl rfl (by decide) (fun b dn W H => H.upd (by decide)) (fun b dn R W hp hm hW => ?_)
     have q40 : R.eval (.tmp 40) = .pointer (some ⟨n, 0, none⟩) := hm.got 0 (by decide) (hp 0 (by decide +kernel)) (by decide) (Nat.le_of_ble_eq_true rfl)
     clear hp hm hW
     show (execOp R.eval _).run Tryz.prog W = .ok (.value (.pointer (some ⟨n, 0, none⟩))) W
     unfold execOp
     generalize R.eval = ρ at *
     go_simp
    ·refine ⟨rfl, fun s hs => (by cases hs), fun b dn R W hi hp hcl hm hW => ?_⟩
     have q3 : R.eval (.tmp 3) = .pointer (some ⟨p3, 0, none⟩) := hm.old 3 (by decide)
     have q41 : R.eval (.tmp 41) = .agg X.cells.toArray := hm.got 1 (by decide) (hp 1 (by decide +kernel)) (by decide) (Nat.le_of_ble_eq_true rfl)
     obtain ⟨h1, h2, h3⟩ := hW
     rw [if_neg (by rw [hi]; decide)] at h3
     have ht : Touch (· = p3) W (W.setCells p3 0 X.cells) := Touch.setCells (S := (· = p3)) rfl _ _ (Touch.refl _ _)
     refine .skip rfl undef (W.setCells p3 0 X.cells) (exec_storeB rfl q3 q41 (h3.there_at 0 (Nat.le_of_ble_eq_true rfl)) rnI (rnO _)) ⟨b, rfl, fun _ _ _ => rfl, h1.trans ht (fun _ _ e => e), ht.blk h2 (Ne.symm HNE.out.1), ?_⟩
     rw [Dag.upd_same, if_pos rfl]
     exact h3.setCells (cs := rnZ) rfl
    ·intro b dn w9 hd hW
     obtain ⟨h1, h2, h3⟩ := hW
     rw [if_pos (hd 3 (by decide))] at h3
     have HB := lh h3
     have HT9 := lh h1
     clear h1 h2 h3 hd HINJ HFD
     simp only [ozD, Dag.actOf, List.foldl_cons, List.foldl_nil, ozval, ozidx]
     go_simp
     go_wp2_with fail
     refine bodyPost_ret (v := .tuple #[.pointer (some ⟨n, 0, none⟩), .agg X.cells.toArray]) (results_tc Tryz.results7 _ (by rfl) HB.out.range Tryz.underlying40 rfl rnI) rfl ⟨n, q, X, D, rfl, HKK.out, HSH.out, HE.out.far HT9.out (fun b e => by have e : b = p3 := e; rw [e, H3.out.2]; omega) (fun _ _ => rfl), HDD.out, HFW.out.trans HT9.out (fun b hb e => ?_)⟩
     have e : b = p3 := e
     have := HP3.out
     omega
end Go.Proofs.YtipaobpmojahaaaGreat
