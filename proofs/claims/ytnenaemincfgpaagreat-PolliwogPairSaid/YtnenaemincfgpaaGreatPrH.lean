/-
  Two ends in memory, and the boxes of who drives them. Conditions: the ends may be · polliwogtop.PolliwogPair: 'pass'. Conditions: a pass comes to its end · polliwogtop.PolliwogPair: two ends, their boxes, and the list of what was asked for, in memory.
-/
import Derived.Test.YtnenaemincfgpaaGreatPrF
import Derived.Test.YtnenaemincfgpaaGreatEnRq
import Derived.Test.YtnenaemincfgpaaGreatEnS
import Derived.Test.YtnenaemincfgpaaGreatEnQt
import Derived.Test.YtnenaemincfgpaaGreatEnVr
set_option maxHeartbeats 8000000
namespace Go.Proofs.YtnenaemincfgpaaGreat
open Go.RowKit

structure Ch (D D' : Nat -> Nat) (w w' : World) : Prop where
 lab : ∀ b, b < w.heap.size -> D' b = D b
 t : ∃ T, Touch T w w' ∧ ∀ b, T b -> D b < 32
section
variable {D D' D2 : Nat -> Nat} {w w' w2 : World}
theorem Ch.blk {b : Nat} {ty : TypeId} {cs : List Value} (h : Ch D D' w w') (hb : Blk w b ty cs) (hd : 32 <= D b) : Blk w' b ty cs ∧ D' b = D b := by
 obtain ⟨T, t1, t2⟩ := h.t
 exact ⟨t1.blk hb (fun e => by have := t2 _ e; omega), h.lab b hb.lt⟩
theorem Ch.old (ht : Fresh w w') (hD : ∀ b, b < w.heap.size -> D' b = D b) : Ch D D' w w' := ⟨hD, _, ht, fun _ e => e.elim⟩
theorem EndTo.ch {k n : Nat} {x : En.X} (h : EndTo k D D' w w' n x) (hk : k + 8 <= 32) : Ch D D' w w' := ⟨h.lab.1, _, h.touch, fun b e => by unfold All at e; omega⟩
end

structure Two (k k' : Nat) (D : Nat -> Nat) (w : World) (n n' : Nat) (x y : En.X) : Prop where
 a : EndAt k D w n x
 b : EndAt k' D w n' y
 ks : (k = 0 ∧ k' = 16) ∨ (k = 16 ∧ k' = 0)
section
variable {k k' : Nat} {D D' : Nat -> Nat} {w w' : World} {n n' : Nat} {x y z : En.X}
theorem Two.swap (h : Two k k' D w n n' x y) : Two k' k D w n' n y x := ⟨h.b, h.a, by have := h.ks; omega⟩
theorem Two.kk (h : Two k k' D w n n' x y) : k + 8 <= 32 ∧ k' + 8 <= 32 ∧ (k' + 8 <= k ∨ k + 8 < k') ∧ (k + 8 <= k' ∨ k' + 8 < k) := by have := h.ks; omega
theorem Two.fst (h : Two k k' D w n n' x y) (he : EndTo k D D' w w' n z) : Two k k' D' w' n n' z y := ⟨he.at_, h.b.other he.touch he.lab.1 (by have := h.ks; omega), h.ks⟩
theorem Two.snd (h : Two k k' D w n n' x y) (he : EndTo k' D D' w w' n' z) : Two k k' D' w' n n' x z := (h.swap.fst he).swap
theorem Two.old (h : Two k k' D w n n' x y) (ht : Fresh w w') (hD : ∀ b, b < w.heap.size -> D' b = D b) : Two k k' D' w' n n' x y := ⟨h.a.old ht hD, h.b.old ht hD, h.ks⟩
theorem EndAt.off {T : Nat -> Prop} (h : EndAt k D w n x) (ht : Touch T w w') (hT : ∀ b, T b -> 32 <= D b) (hk : k + 8 <= 32) (hD : ∀ b, b < w.heap.size -> D' b = D b) : EndAt k D' w' n x := by
 obtain ⟨cn, pc, un, sp, rp, A, ca, B, cb, h⟩ := h
 exact ⟨cn, pc, un, sp, rp, A, ca, B, cb, h.keep ht (fun b hb => by have := hT b hb; omega) hD⟩
theorem Two.off {T : Nat -> Prop} (h : Two k k' D w n n' x y) (ht : Touch T w w') (hT : ∀ b, T b -> 32 <= D b) (hD : ∀ b, b < w.heap.size -> D' b = D b) : Two k k' D' w' n n' x y := ⟨h.a.off ht hT h.kk.1 hD, h.b.off ht hT h.kk.2.1 hD, h.ks⟩

theorem Goes.fit {u u' : Cn.Pd} {l : List Int} (h : Goes k D' w w' u l u') (hu : Pr.UB u l) (hk : k' + 8 <= k ∨ k + 8 < k') : UFit k' D' w' u' l := by
 obtain ⟨h1, h2, h3, e1, e2, e3⟩ := hu
 rcases h with ⟨rfl, rfl⟩ | ⟨A, c, rfl, hs, ha⟩
 ·exact ⟨h1, h2, by rw [e1, e3]; exact Rd.nil _ _, by rw [e2]; rfl, by simp, fun ad e => by rw [e1] at e; cases e⟩
 ·exact ⟨h1, h2, Sl.rd hs, rfl, h3, fun ad e => ⟨hs.lt ad e, by rw [(ha ad e).2]; omega⟩⟩
theorem receive_list (y : En.X) (u : Cn.Pd) (l : List Int) (A : Option Addr) (m c : Nat) : En.receive y { u with lA := A, ln := m, lc := c } l = En.receive y u l := by
 cases u
 rfl
theorem Goes.same {u u' : Cn.Pd} {l : List Int} (h : Goes k D' w w' u l u') (y : En.X) : En.receive y u' l = En.receive y u l := by
 rcases h with ⟨rfl, rfl⟩ | ⟨A, c, rfl, -, -⟩
 ·rfl
 ·exact receive_list _ _ _ _ _ _
end

structure PrBase where
 w : World
 K : Nat -> Prop
structure Bx3 (B : PrBase) (D : Nat -> Nat) (w : World) (pa pb pg na nb : Nat) (A : Option Addr) (c : Nat) (got : List ByteArray) : Prop where
 fr : Touch (fun b => ¬ B.K b) B.w w
 old : ∀ b, B.K b -> b < B.w.heap.size ∧ D b = 40
 ba : Blk w pa 27 [.pointer (some ⟨na, 0, none⟩)] ∧ D pa = 33
 bb : Blk w pb 27 [.pointer (some ⟨nb, 0, none⟩)] ∧ D pb = 33
 bg : Blk w pg 25 [.slice A got.length c] ∧ D pg = 34
 sl : Sl strE w A c got
 sa : ∀ ad, A = some ad -> D ad.block = 32
section
variable {B : PrBase} {D D' : Nat -> Nat} {w w' : World} {pa pb pg na nb : Nat} {A : Option Addr} {c : Nat} {got : List ByteArray}
theorem Bx3.keep {T : Nat -> Prop} (h : Bx3 B D w pa pb pg na nb A c got) (ht : Touch T w w') (hT : ∀ b, T b -> D b < 32 ∨ D b = 35 ∨ (D b = 40 ∧ ¬ B.K b)) (hD : ∀ b, b < w.heap.size -> D' b = D b) : Bx3 B D' w' pa pb pg na nb A c got := by
 have no : ∀ b v, D b = v -> v = 32 ∨ v = 33 ∨ v = 34 -> ¬ T b := fun b v e hv ht => by have := hT b ht; omega
 have hs := h.fr.size
 exact ⟨h.fr.trans ht (fun b hb e hk => by have := hT b e; have := (h.old b hk).2; rcases hT b e with e | e | e <;> first | omega | exact e.2 hk), fun b hb => ⟨(h.old b hb).1, (hD _ (by have := (h.old b hb).1; omega)).trans (h.old b hb).2⟩,
  ⟨ht.blk h.ba.1 (no pa 33 h.ba.2 (by omega)), (hD _ h.ba.1.lt).trans h.ba.2⟩, ⟨ht.blk h.bb.1 (no pb 33 h.bb.2 (by omega)), (hD _ h.bb.1.lt).trans h.bb.2⟩, ⟨ht.blk h.bg.1 (no pg 34 h.bg.2 (by omega)), (hD _ h.bg.1.lt).trans h.bg.2⟩,
  h.sl.touch ht (fun ad e => no _ 32 (h.sa ad e) (by omega)), fun ad e => (hD _ (h.sl.lt ad e)).trans (h.sa ad e)⟩
theorem Bx3.rebase {K : Nat -> Prop} (h : Bx3 B D w pa pb pg na nb A c got) (hK : ∀ b, K b -> b < w.heap.size ∧ D b = 40) : Bx3 ⟨w, K⟩ D w pa pb pg na nb A c got := ⟨Touch.refl _ _, hK, h.ba, h.bb, h.bg, h.sl, h.sa⟩
theorem Bx3.back {K : Nat -> Prop} {w0 : World} (h : Bx3 ⟨w0, K⟩ D w pa pb pg na nb A c got) (ht : Touch (fun b => ¬ B.K b) B.w w0) (hK : ∀ b, B.K b -> K b ∧ b < B.w.heap.size) : Bx3 B D w pa pb pg na nb A c got :=
 ⟨ht.trans h.fr (fun b _ e hb => e (hK b hb).1), fun b hb => ⟨(hK b hb).2, (h.old b (hK b hb).1).2⟩, h.ba, h.bb, h.bg, h.sl, h.sa⟩
theorem Bx3.ch (h : Bx3 B D w pa pb pg na nb A c got) (hc : Ch D D' w w') : Bx3 B D' w' pa pb pg na nb A c got := by
 obtain ⟨T, h1, h2⟩ := hc.t
 exact h.keep h1 (fun b e => .inl (h2 b e)) hc.lab
theorem Bx3.alloc (h : Bx3 B D w pa pb pg na nb A c got) (ht : Fresh w w') (hD : ∀ b, b < w.heap.size -> D' b = D b) : Bx3 B D' w' pa pb pg na nb A c got := h.keep ht (fun _ e => e.elim) hD
theorem Bx3.grow {L : List ByteArray} {A' : Option Addr} {c' : Nat} (h : Bx3 B D w pa pb pg na nb A c got) (hl : Sl strE w' A' c' L) (ht : Touch (fun k => A.map Addr.block = some k) w w') (hb : A'.map Addr.block = A.map Addr.block ∨ A'.map Addr.block = some w.heap.size) :
  ∃ D', (∀ b, b < w.heap.size -> D' b = D b) ∧ Bx3 B D' (w'.setCell ⟨pg, 0, none⟩ (.slice A' L.length c')) pa pb pg na nb A' c' L ∧ (∃ T, Touch T w (w'.setCell ⟨pg, 0, none⟩ (.slice A' L.length c')) ∧ ∀ b, T b -> 32 <= D b ∧ D b ≠ 33 ∧ D b ≠ 35 ∧ D b ≠ 40) := by
 have hD : ∀ {b : Nat}, b < w.heap.size -> lab D w.heap.size 32 b = D b := fun hb => lab_old hb
 have hs := h.fr.size
 have hlt : ∀ ad, A = some ad -> ad.block < w.heap.size := h.sl.lt
 have ht2 : Touch (fun k => A.map Addr.block = some k ∨ k = pg) w (w'.setCell ⟨pg, 0, none⟩ (.slice A' L.length c')) := (ht.mono fun _ _ e => .inl e).trans (Touch.set1 w' pg 0 _) (fun b _ e => .inr e)
 have hA : ∀ k, A.map Addr.block = some k -> D k = 32 := fun k e => by
  cases A with
  |none => cases e
  |some ad => injection e with e; subst e; exact h.sa ad rfl
 have no : ∀ b v, D b = v -> v = 33 ∨ v = 40 -> ¬ (A.map Addr.block = some b ∨ b = pg) := fun b v e hv ht => by
  rcases ht with ht | rfl
  ·have := hA b ht; omega
  ·have := h.bg.2; omega
 have hpg : Blk w' pg 25 [.slice A got.length c] := ht.blk h.bg.1 (fun e => by have := hA _ e; have := h.bg.2; omega)
 refine ⟨lab D w.heap.size 32, fun b hb => hD hb, ⟨h.fr.trans ht2 (fun b hb e hk => no b 40 (h.old b hk).2 (by omega) e), fun b hb => ⟨(h.old b hb).1, (hD (by have := (h.old b hb).1; omega)).trans (h.old b hb).2⟩,
  ⟨ht2.blk h.ba.1 (no pa 33 h.ba.2 (by omega)), (hD h.ba.1.lt).trans h.ba.2⟩, ⟨ht2.blk h.bb.1 (no pb 33 h.bb.2 (by omega)), (hD h.bb.1.lt).trans h.bb.2⟩, ⟨hpg.set 0 _, (hD h.bg.1.lt).trans h.bg.2⟩,
  hl.touch (Touch.set1 w' pg 0 _) (fun ad e e2 => ?_), fun ad e => ?_⟩, _, ht2, fun b e => ?_⟩
 ·subst e
  have e2 : ad.block = pg := e2
  rcases hb with hb | hb
  ·have := hA ad.block hb.symm
   rw [e2] at this
   have := h.bg.2
   omega
  ·injection hb with hb
   have := h.bg.1.lt
   omega
 ·subst e
  rcases hb with hb | hb
  ·rw [hD (by
    cases A with
    |none => cases hb
    |some a2 => injection hb with hb; rw [hb]; exact hlt a2 rfl)]
   exact hA ad.block hb.symm
  ·injection hb with hb
   exact lab_new (by omega)
 ·rcases e with e | rfl
  ·have := hA b e; omega
  ·have := h.bg.2; omega
end
theorem UFit.old {k : Nat} {D D' : Nat -> Nat} {w w' : World} {u : Cn.Pd} {l : List Int} (h : UFit k D w u l) (ht : Fresh w w') (hD : ∀ b, b < w.heap.size -> D' b = D b) : UFit k D' w' u l :=
 ⟨h.n, h.mr, h.rd.touch ht (fun _ _ _ e => e), h.ln, h.ll, fun ad e => ⟨Nat.lt_of_lt_of_le (h.ap ad e).1 ht.size, by rw [hD _ (h.ap ad e).1]; exact (h.ap ad e).2⟩⟩
theorem En.request_ok {x : En.X} {hi hi2 : Int} (h : En.Fit x hi hi2) (kd : Int) (d : ByteArray) (m : Int) : En.Fit (En.request x kd d m).1 hi hi2 := by
 unfold En.request
 split
 ·split
  ·dsimp only
   split
   ·have := En.ask_ok h kd d m
    exact ⟨this.nd, this.ks, this.b1, this.b2, this.ep, this.st⟩
   ·exact En.ask_ok h kd d m
  ·exact h
 ·exact h
theorem Pr.acc_snoc (y : En.X) (l : List Cn.Sig) (m : Nat) (h : m < l.length) : Pr.acc y (l.take (m + 1)) = if l[m].kind = 1 then (En.request (Pr.acc y (l.take m)) 2 Cn.no 0).1 else Pr.acc y (l.take m) := by
 unfold Pr.acc
 rw [List.take_succ_eq_append_getElem h, List.foldl_append]
 rfl
theorem Pr.gets_snoc (l : List Cn.Sig) (m : Nat) (h : m < l.length) : Pr.gets (l.take (m + 1)) = Pr.gets (l.take m) ++ if l[m].kind = 8 then [l[m].data] else [] := by
 rw [List.take_succ_eq_append_getElem h, Pr.gets_append]
 congr 1
 unfold Pr.gets
 by_cases e : l[m].kind = 8
 ·simp [e]
 ·simp [e]
def Pr.Mid (B : PrBase) (wx : World) (pa pb pg na nb ga q q' n n' : Nat) (x' y1 : En.X) (sg : List Cn.Sig) (A4 : Option Addr) (c4 : Nat) (got : List ByteArray) (j m : Nat) : Prop :=
 ∃ D A c, Two q q' D wx n n' x' (Pr.acc y1 (sg.take m)) ∧ Bx3 B D wx pa pb pg na nb A c (got ++ if j = 0 then Pr.gets (sg.take m) else []) ∧ (Blk wx ga 27 [.pointer (some ⟨na, 0, none⟩), .pointer (some ⟨nb, 0, none⟩)] ∧ D ga = 35) ∧ Sl sigE wx A4 c4 sg ∧ ∀ ad, A4 = some ad -> D ad.block = q' + 8
set_option maxRecDepth 20000
namespace Pr
def SJ (s : St) (j : Nat) : St := if j = 0 then s else if j = 1 then (half0 s).1 else round s
def BJ (s : St) (j : Nat) : Bool := if j = 0 then false else if j = 1 then (half0 s).2 else more s
structure Turn (s : St) (j : Nat) (na nb k k' n n' : Nat) (x y : En.X) : Prop where
 fine : Fine x y
 e1 : [na, nb][j]? = some n
 e2 : [nb, na][j]? = some n'
 no : ∀ x', En.next x = (x', none) -> (∀ D w, Two k k' D w n n' x' y -> Two 0 16 D w na nb (SJ s (j + 1)).a (SJ s (j + 1)).b) ∧ (SJ s (j + 1)).got = (SJ s j).got ∧ BJ s (j + 1) = BJ s j
 yes : ∀ x' u l, En.next x = (x', some (u, l)) -> (∀ D w, Two k k' D w n n' x' (hears y u l) -> Two 0 16 D w na nb (SJ s (j + 1)).a (SJ s (j + 1)).b) ∧ (SJ s (j + 1)).got = (SJ s j).got ++ (if j = 0 then gets (En.receive y u l).2 else []) ∧ BJ s (j + 1) = true
theorem turn {s : St} (hr : Rnd s) {j : Nat} (hj : j < 2) {D : Nat -> Nat} {w : World} {na nb : Nat} (h : Two 0 16 D w na nb (SJ s j).a (SJ s j).b) :
  ∃ k k' n n' x y, Two k k' D w n n' x y ∧ Turn s j na nb k k' n n' x y := by
 rcases (show j = 0 ∨ j = 1 by omega) with rfl | rfl
 ·refine ⟨0, 16, na, nb, s.a, s.b, h, hr.f0, rfl, rfl, fun x' e => ?_, fun x' u l e => ?_⟩
  ·have h0 : half0 s = (⟨x', s.b, s.got⟩, false) := by unfold half0; rw [e]
   have h1 : SJ s 1 = ⟨x', s.b, s.got⟩ := by show (half0 s).1 = _; rw [h0]
   have h2 : BJ s 1 = false := by show (half0 s).2 = _; rw [h0]
   exact ⟨fun D w ht => by rw [h1]; exact ht, by rw [h1]; rfl, h2⟩
  ·have h0 : half0 s = (⟨x', hears s.b u l, s.got ++ gets (En.receive s.b u l).2⟩, true) := by unfold half0; rw [e]
   have h1 : SJ s 1 = ⟨x', hears s.b u l, s.got ++ gets (En.receive s.b u l).2⟩ := by show (half0 s).1 = _; rw [h0]
   have h2 : BJ s 1 = true := by show (half0 s).2 = _; rw [h0]
   exact ⟨fun D w ht => by rw [h1]; exact ht, by rw [h1]; rfl, h2⟩
 ·have e1 : SJ s 1 = (half0 s).1 := rfl
  have e2 : BJ s 1 = (half0 s).2 := rfl
  have e3 : SJ s 2 = (half1 (half0 s).1).1 := rfl
  have e4 : BJ s 2 = ((half0 s).2 || (half1 (half0 s).1).2) := rfl
  rw [e1] at h
  have hf := hr.f1
  refine ⟨16, 0, nb, na, (half0 s).1.b, (half0 s).1.a, h.swap, hf, rfl, rfl, fun x' e => ?_, fun x' u l e => ?_⟩
  ·rw [e1, e2, e3, e4]
   generalize (half0 s).1 = r at *
   have h0 : half1 r = (⟨r.a, x', r.got⟩, false) := by unfold half1; rw [e]
   exact ⟨fun D w ht => by rw [h0]; exact ht.swap, by rw [h0], by rw [h0, Bool.or_false]⟩
  ·rw [e1, e3, e4]
   generalize (half0 s).1 = r at *
   have h0 : half1 r = (⟨hears r.a u l, x', r.got⟩, true) := by unfold half1; rw [e]
   exact ⟨fun D w ht => by rw [h0]; exact ht.swap, by rw [h0]; show r.got = r.got ++ []; rw [List.append_nil], by rw [h0, Bool.or_true]⟩
theorem gots {s : St} (hr : Rnd s) {j : Nat} (hj : j <= 2) : (SJ s j).got.length <= 100000 := by
 have h1 : (SJ s 1).got.length <= 100000 := hr.g
 have h2 : (SJ s 2).got = (SJ s 1).got := by
  show (half1 (half0 s).1).1.got = (half0 s).1.got
  unfold half1
  split <;> rfl
 have h0 : (SJ s 0).got.length <= (SJ s 1).got.length := by
  show s.got.length <= (half0 s).1.got.length
  unfold half0
  split
  ·exact Nat.le_refl _
  ·simp
 rcases (show j = 0 ∨ j = 1 ∨ j = 2 by omega) with rfl | rfl | rfl
 ·omega
 ·exact h1
 ·rw [h2]; exact h1
end Pr
set_option maxRecDepth 20000
set_option linter.constructorNameAsVariable false

structure PrAt (B : PrBase) (w : World) (pa pb pg na nb : Nat) (t : Pr.St) : Prop where
 ex : ∃ D A c, Two 0 16 D w na nb t.a t.b ∧ Bx3 B D w pa pb pg na nb A c t.got
theorem least {P : Nat -> Prop} (h : ∃ k, P k) : ∃ k, P k ∧ ∀ j, P j -> k <= j := by
 obtain ⟨k, hk⟩ := h
 induction k using Nat.strongRecOn with
 |ind k ih =>
  by_cases hj : ∃ j, j < k ∧ P j
  ·obtain ⟨j, h1, h2⟩ := hj
   exact ih j h1 h2
  ·refine ⟨k, hk, fun j h => ?_⟩
   rcases Nat.lt_or_ge j k with h1 | h1
   ·exact absurd ⟨j, h1, h⟩ hj
   ·exact h1
def Lft (B : PrBase) (w : World) (pa pb pg na nb : Nat) (t' : Pr.St) (k : Nat) : Prop := ∃ s, PrAt B w pa pb pg na nb s ∧ Pr.Pass k s t'
open Classical in
noncomputable def lft (B : PrBase) (w : World) (pa pb pg na nb : Nat) (t' : Pr.St) : Nat := if h : ∃ k, Lft B w pa pb pg na nb t' k then Classical.choose (least h) else 0
theorem lft_spec {B : PrBase} {w : World} {pa pb pg na nb : Nat} {t' : Pr.St} (h : ∃ k, Lft B w pa pb pg na nb t' k) : Lft B w pa pb pg na nb t' (lft B w pa pb pg na nb t') ∧ ∀ j, Lft B w pa pb pg na nb t' j -> lft B w pa pb pg na nb t' <= j := by
 have := Classical.choose_spec (least h)
 unfold lft
 rw [dif_pos h]
 exact this
noncomputable def lfm (B : PrBase) (pa pb pg na nb : Nat) (t' : Pr.St) (v : Value) (w : World) : Nat := match v with
 |.bool true => lft B w pa pb pg na nb t' + 1
 |_ => 0
def PassPost (B : PrBase) (pa pb pg na nb : Nat) (t' : Pr.St) (e : Ending) (w' : World) : Prop := e = .returned (.tuple #[]) ∧ PrAt B w' pa pb pg na nb t'
section
variable {B : PrBase} {w : World} {pa pb pg na nb : Nat}
theorem pass_any {t t' : Pr.St} {m : Nat} (h : PrAt B w pa pb pg na nb t) (hp : Pr.Pass m t t') :
  Calls Tryz.prog 6 #[.pointer (some ⟨pa, 0, none⟩), .pointer (some ⟨pb, 0, none⟩), .pointer (some ⟨pg, 0, none⟩)] w (PassPost B pa pb pg na nb t') := by
 have H := lh h
 have HP := lh hp
 clear h hp
 go_enter Tryz.func6, Tryz.ntmps6
 go_wp2_with fail
 go_loopw [3] (fun v wr => ∃ b : Bool, v = .bool b ∧ ((b = true ∧ Hid (∃ k, Lft B wr pa pb pg na nb t' k)) ∨ (b = false ∧ Hid (PrAt B wr pa pb pg na nb t')))) (fun v wr => lfm B pa pb pg na nb t' v wr)
 case atStart => exact ⟨true, rfl, .inl ⟨rfl, m, t, H.out, HP.out⟩⟩
 case round =>
  clear H HP
  obtain ⟨b, rfl, hr⟩ := hrel
  cases b
  ·have HE : Hid (PrAt B wr pa pb pg na nb t') := by
    rcases hr with ⟨e, -⟩ | ⟨-, h⟩
    ·cases e
    ·exact h
   clear hr
   go_wp2_with fail
   refine bodyPost_ret (results_none rfl _ _ _) rfl ?_
   exact ⟨rfl, HE.out⟩
  ·have HL : Hid (∃ k, Lft B wr pa pb pg na nb t' k) := by
    rcases hr with ⟨-, h⟩ | ⟨e, -⟩
    ·exact h
    ·cases e
   clear hr
   obtain ⟨k, hk⟩ := qx (lft B wr pa pb pg na nb t')
   obtain ⟨⟨s, hs1, hs2⟩, hs3⟩ := lft_spec HL.out
   rw [hk] at hs2 hs3
   have HS := lh hs1
   have HPS := lh hs2
   have HK := lh hk
   clear hs1 hs2 hs3 hk HL
   obtain ⟨D, A, c, h2, h3⟩ := HS.out.ex
   have a1 : wr.cell? ⟨pa, 0, none⟩ = some (.pointer (some ⟨na, 0, none⟩)) := h3.ba.1.cell 0
   have b1 : wr.cell? ⟨pb, 0, none⟩ = some (.pointer (some ⟨nb, 0, none⟩)) := h3.bb.1.cell 0
   have H2 := lh h2
   have H3 := lh h3
   clear h2 h3 HS
   have HR : Hid (Pr.Rnd s) := by cases HPS.out with
    |stop h he => exact h
    |go h he hp => exact h
   have HEND : Hid (∀ wz, PrAt B wz pa pb pg na nb (Pr.SJ s 2) -> (Pr.BJ s 2 = true -> (∃ j, Lft B wz pa pb pg na nb t' j ∧ j < k)) ∧ (Pr.BJ s 2 = false -> PrAt B wz pa pb pg na nb t')) := by
    intro wz hz
    have hz : PrAt B wz pa pb pg na nb (Pr.round s) := hz
    refine ⟨fun e => ?_, fun e => ?_⟩
    ·have e : Pr.more s = true := e
     cases HPS.out with
     |stop h he => rw [he] at e; cases e
     |go h he hp => exact ⟨_, ⟨_, hz, hp⟩, Nat.lt_succ_self _⟩
    ·have e : Pr.more s = false := e
     cases HPS.out with
     |stop h he => exact hz
     |go h he hp => rw [he] at e; cases e
   go_upto_block 2 with (fail)
   obtain ⟨w1, hw1⟩ := xq (wr.alloc (.cells #[.pointer (some ⟨na, 0, none⟩), .pointer (some ⟨nb, 0, none⟩)] 27))
   obtain ⟨ga, hga⟩ := xq wr.heap.size
   have HI1 : Hid (∃ D A c, Two 0 16 D w1 na nb (Pr.SJ s 0).a (Pr.SJ s 0).b ∧ Bx3 B D w1 pa pb pg na nb A c (Pr.SJ s 0).got ∧ Blk w1 ga 27 [.pointer (some ⟨na, 0, none⟩), .pointer (some ⟨nb, 0, none⟩)] ∧ D ga = 35) := by
    have hf : Fresh wr w1 := by rw [hw1]; exact (Touch.refl _ _).alloc _
    have hD : ∀ b, b < wr.heap.size -> lab D wr.heap.size 35 b = D b := fun b hb => lab_old hb
    exact ⟨lab D wr.heap.size 35, A, c, H2.out.old hf hD, H3.out.alloc hf hD, by rw [hw1, hga]; exact Blk.new wr _ _, lab_new (by omega)⟩
   rw [<- hw1, <- hga]
   clear hw1 hga a1 b1 H2 H3
   go_wp2_with fail
   go_loopw [16, 3] (fun i v wx => ∃ j : Nat, j <= 2 ∧ i = .int .i64 j ∧ v = .bool (Pr.BJ s j) ∧ Hid (∃ D A c, Two 0 16 D wx na nb (Pr.SJ s j).a (Pr.SJ s j).b ∧ Bx3 B D wx pa pb pg na nb A c (Pr.SJ s j).got ∧ Blk wx ga 27 [.pointer (some ⟨na, 0, none⟩), .pointer (some ⟨nb, 0, none⟩)] ∧ D ga = 35)) (fun i _ _ => (2 - intOf i).toNat)
   case atStart => exact ⟨0, by omega, rfl, rfl, HI1.out⟩
   case round =>
    clear HI1
    obtain ⟨j, hj, rfl, rfl, HI⟩ := hrel
    by_cases hlt : j < 2
    ·have hd : decide ((j : Int) < 2) = true := decide_eq_true (by omega)
     have hjlt : (j : Int) < 2 := by omega
     have hj3 : j = 0 ∨ j = 1 := by omega
     obtain ⟨D, A, c, h2, h3, h4, h5⟩ := HI.out
     obtain ⟨q, q', n, n', x, y, ht, hu⟩ := Pr.turn HR.out hlt h2
     have y1 : wr.cell? ⟨ga, (j : Nat), none⟩ = some (.pointer (some ⟨n, 0, none⟩)) := by
      have e1 := hu.e1
      rcases hj3 with rfl | rfl
      ·injection e1 with e1; subst e1; exact h4.cell 0
      ·injection e1 with e1; subst e1; exact h4.cell 1
     have a1 : wr.cell? ⟨pa, 0, none⟩ = some (.pointer (some ⟨na, 0, none⟩)) := h3.ba.1.cell 0
     have b1 : wr.cell? ⟨pb, 0, none⟩ = some (.pointer (some ⟨nb, 0, none⟩)) := h3.bb.1.cell 0
     have HT := lh ht
     have HU := lh hu
     have H3 := lh h3
     have H4 := lh h4
     have H5 := lh h5
     have HG0 := lh (Pr.gots HR.out hj)
     have HJ3 := lh hj3
     clear ht hu h2 h3 h4 h5 HI hj3
     have HE2 : ∀ hh, [Value.pointer (some ⟨nb, 0, none⟩), Value.pointer (some ⟨na, 0, none⟩)][j]'hh = Value.pointer (some ⟨n', 0, none⟩) := fun hh => by
      have e2 := HU.out.e2
      rcases HJ3.out with rfl | rfl
      ·injection e2 with e2; subst e2; rfl
      ·injection e2 with e2; subst e2; rfl
     go_upto_region 7 with (fail)
     obtain ⟨w1, hw1⟩ := xq (wr.alloc (.cells #[.pointer (some ⟨nb, 0, none⟩), .pointer (some ⟨na, 0, none⟩)] 27))
     obtain ⟨D1, hD1⟩ := xq (lab D wr.heap.size 35)
     have HC1 : Ch D D1 wr w1 := Ch.old (by rw [hw1]; exact (Touch.refl _ _).alloc _) (fun b hb => by rw [hD1]; exact lab_old hb)
     have HF1 : Fresh wr w1 := by rw [hw1]; exact (Touch.refl _ _).alloc _
     have HT1 := lh (HT.out.old HF1 HC1.lab)
     have H31 := lh (H3.out.ch HC1)
     have H41 := lh (HC1.blk H4.out (by rw [H5.out]; decide))
     rw [<- hw1]
     have H51 : Hid (D1 ga = 35) := H41.out.2.trans H5.out
     clear hw1 hD1 HC1 HF1 HT H3 H4 H5 y1 a1 b1 HE2
     obtain ⟨hi, hi2, hj1, hj2, f1, f2, f3, f4, f5⟩ := HU.out.fine
     have F3 := lh f3
     have F4 := lh f4
     have F5 := lh f5
     have HN : Hid (Calls Tryz.prog 7 #[.pointer (some ⟨n, 0, none⟩)] w1 (NextPost q D1 w1 n (En.next x))) := by
      obtain ⟨cn, pc, un, sp, rp, A1, ca1, B1, cb1, hin⟩ := HT1.out.a
      exact nnext_any hin f1
     clear f1 f2 f3 f4 f5
     obtain ⟨⟨x', o⟩, hnx⟩ : ∃ o, En.next x = o := ⟨_, rfl⟩
     rw [hnx] at HN
     have HNX := lh hnx
     clear hnx
     cases o with
     |none =>
      obtain ⟨z1, z2, z3⟩ := HU.out.no x' HNX.out
      have Z1 := lh z1
      have Z2 := lh z2
      have Z3 := lh z3
      clear z1 z2 z3
      go_upto_region 8 with (go_at_call 7; (with_reducible refine HN.out.mono ?_); rintro e w2 ⟨D2, u', rfl, h6, h7⟩; have HET := lh h6; clear h6 h7; unfold pduV; simp only)
      have HIJ : Hid (∀ o, ∃ D A c, Two 0 16 D (w2.alloc o) na nb (Pr.SJ s (j + 1)).a (Pr.SJ s (j + 1)).b ∧ Bx3 B D (w2.alloc o) pa pb pg na nb A c (Pr.SJ s (j + 1)).got ∧ Blk (w2.alloc o) ga 27 [.pointer (some ⟨na, 0, none⟩), .pointer (some ⟨nb, 0, none⟩)] ∧ D ga = 35) := by
       intro o
       have hc := HET.out.ch HT1.out.kk.1
       have hf : Fresh w2 (w2.alloc o) := (Touch.refl _ _).alloc _
       have hD : ∀ b, b < w2.heap.size -> lab D2 w2.heap.size 35 b = D2 b := fun b hb => lab_old hb
       have h1 := (HT1.out.fst HET.out).old hf hD
       have h2 := (H31.out.ch hc).alloc hf hD
       have h3 := hc.blk H41.out.1 (by rw [H51.out]; decide)
       have h4 := hf.blk h3.1 (fun e => e)
       exact ⟨_, A, c, Z1.out _ _ h1, by rw [Z2.out]; exact h2, h4, by rw [hD _ h3.1.lt, h3.2]; exact H51.out⟩
      clear HET HT1 H31 H41 H51 Z1 Z2 HN HG0
      go_wp2_with fail
      refine ⟨⟨j + 1, by omega, by go_num, by rw [Z3.out], HIJ.out _⟩, ?_⟩
      simp [intOf]; omega
     |some p =>
      obtain ⟨u, l⟩ := p
      obtain ⟨z1, z2, z3⟩ := HU.out.yes x' u l HNX.out
      have Z1 := lh z1
      have Z2 := lh z2
      have Z3 := lh z3
      obtain ⟨ub, ul⟩ := F5.out x' u l HNX.out
      have UB := lh ub
      have UL := lh ul
      clear z1 z2 z3 ub ul
      go_upto_region 8 with (go_at_call 7; (with_reducible refine HN.out.mono ?_); rintro e w2 ⟨D2, u', rfl, h6, h7⟩; have HET := lh h6; have HGO := lh (h7 u l rfl); clear h6 h7; unfold pduV; simp only)
      obtain ⟨w3, hw3⟩ := xq (w2.alloc (.cells #[.int .i64 u'.kind, .int .i64 u'.sq, .int .u32 u'.n, .int .u32 u'.ps, .int .u32 u'.mr, .slice u'.lA u'.ln u'.lc, .bool u'.self, .string u'.data] 34))
      obtain ⟨b7, hb7⟩ := xq w2.heap.size
      obtain ⟨D3, hD3⟩ := xq (lab D2 w2.heap.size 35)
      have HF3 : Fresh w2 w3 := by rw [hw3]; exact (Touch.refl _ _).alloc _
      have HC3 : Ch D2 D3 w2 w3 := Ch.old HF3 (fun b hb => by rw [hD3]; exact lab_old hb)
      have HB7 : Hid (Blk w3 b7 34 [.int .i64 u'.kind, .int .i64 u'.sq, .int .u32 u'.n, .int .u32 u'.ps, .int .u32 u'.mr, .slice u'.lA u'.ln u'.lc, .bool u'.self, .string u'.data]) := by rw [hw3, hb7]; exact Blk.new w2 _ _
      have hc2 := HET.out.ch HT1.out.kk.1
      have HT3 := lh ((HT1.out.fst HET.out).old HF3 HC3.lab)
      have H33 := lh ((H31.out.ch hc2).ch HC3)
      have h42 := hc2.blk H41.out.1 (by rw [H51.out]; decide)
      have h43 := HC3.blk h42.1 (by rw [h42.2, H51.out]; decide)
      have H43 : Hid (Blk w3 ga 27 [.pointer (some ⟨na, 0, none⟩), .pointer (some ⟨nb, 0, none⟩)] ∧ D3 ga = 35) := ⟨h43.1, h43.2.trans (h42.2.trans H51.out)⟩
      have HUF : Hid (UFit q' D3 w3 u' l) := (HGO.out.fit UB.out (by have := HT1.out.ks; omega)).old HF3 HC3.lab
      have HSM : Hid (En.receive y u' l = En.receive y u l) := HGO.out.same y
      have HRC : Hid (Calls Tryz.prog 8 #[.pointer (some ⟨n', 0, none⟩), .agg #[.int .i64 u'.kind, .int .i64 u'.sq, .int .u32 u'.n, .int .u32 u'.ps, .int .u32 u'.mr, .slice u'.lA u'.ln u'.lc, .bool u'.self, .string u'.data]] w3 (EndSigs q' D3 w3 n' (En.receive y u l))) := by
       obtain ⟨cn, pc, un, sp, rp, A1, ca1, B1, cb1, hin⟩ := HT3.out.b
       have := nreceive_any hin F3.out F4.out u' l HUF.out
       rw [HSM.out] at this
       exact this
      have HFY : Hid (En.Fit (En.receive y u l).1 hj1 (hj2 + 64)) := En.receive_ok F3.out F4.out u l
      rw [<- hw3, <- hb7]
      clear hw3 hb7 hD3 HC3 HF3 hc2 h42 h43 HET HGO HT1 H31 H41 H51 HUF HN
      obtain ⟨⟨y1, sg⟩, hsg⟩ : ∃ o, En.receive y u l = o := ⟨_, rfl⟩
      rw [hsg] at HRC HFY
      have HSG := lh hsg
      clear hsg
      obtain ⟨k0, k1, k2, k3, k4, k5, k6, k7⟩ := HB7.out.all8
      have HG1 := lh (Pr.gots HR.out (show j + 1 <= 2 by omega))
      go_upto_block 4 with (go_at_call 8; (with_reducible refine HRC.out.mono ?_); rintro e w4 ⟨D4, A4, c4, rfl, h6, h7, h8⟩; have HET := lh h6; have HSL := lh h7; have HLB := lh h8; clear h6 h7 h8; simp only)
      have HM0 : Hid (Pr.Mid B w4 pa pb pg na nb ga q q' n n' x' y1 sg A4 c4 (Pr.SJ s j).got j 0) := by
       have hc := HET.out.ch HT3.out.kk.2.1
       have h1 := HT3.out.snd HET.out
       have h2 := H33.out.ch hc
       have h3 := hc.blk H43.out.1 (by rw [H43.out.2]; decide)
       refine ⟨D4, A, c, h1, ?_, ⟨h3.1, h3.2.trans H43.out.2⟩, HSL.out, fun ad e => (HLB.out ad e).2⟩
       have e : ((Pr.SJ s j).got ++ if j = 0 then Pr.gets (sg.take 0) else []) = (Pr.SJ s j).got := by
        have : (if j = 0 then Pr.gets (sg.take 0) else []) = [] := by split <;> rfl
        rw [this, List.append_nil]
       rw [e]
       exact h2
      have HSGL : Hid (sg.length <= sg.length) := Nat.le_refl _
      have HLFT : Hid (∀ m, (Pr.acc y1 (sg.take m)).left.length <= 1000000) := fun m => by
       have := UL.out m
       rw [HSG.out] at this
       exact this
      clear HET HSL HLB HT3 H33 H43 HB7 k0 k1 k2 k3 k4 k5 k6 k7 HRC F3 F4 F5 HU
      go_wp2_with fail
      go_loopw [38] (fun v wx => ∃ m : Nat, m <= sg.length ∧ v = .int .i64 m ∧ Hid (Pr.Mid B wx pa pb pg na nb ga q q' n n' x' y1 sg A4 c4 (Pr.SJ s j).got j m) ∧ Hid (En.Fit (Pr.acc y1 (sg.take m)) hj1 (hj2 + 64))) (fun v _ => (sg.length - intOf v).toNat)
      case atStart => exact ⟨0, by omega, rfl, HM0, HFY⟩
      case round =>
       clear HM0 HFY
       obtain ⟨m, hm, rfl, HM, HFY⟩ := hrel
       by_cases hml : m < sg.length
       ·have hdm : decide ((m : Int) < (sg.length : Int)) = true := decide_eq_true (by omega)
        have hml2 : (m : Int) < (sg.length : Int) := by omega
        obtain ⟨D0, A0, c0, h1, h2, h3, h4, h5⟩ := HM.out
        obtain ⟨gS, oS, hA4, HG, HXS⟩ := h4.at_ m hml
        subst hA4
        have hsl : sg.length <= maxLen := Nat.le_trans h4.1 h4.2.1
        unfold maxLen at hsl
        obtain ⟨sm, hsm⟩ := qx (sg[m])
        have HA : Hid (Pr.acc y1 (sg.take (m + 1)) = if sm.kind = 1 then (En.request (Pr.acc y1 (sg.take m)) 2 Cn.no 0).1 else Pr.acc y1 (sg.take m)) := by rw [<- hsm]; exact Pr.acc_snoc y1 sg m hml
        have HGT : Hid (Pr.gets (sg.take (m + 1)) = Pr.gets (sg.take m) ++ if sm.kind = 8 then [sm.data] else []) := by rw [<- hsm]; exact Pr.gets_snoc sg m hml
        rw [hsm] at HXS
        clear hsm
        obtain ⟨kd, hkd⟩ := qx sm.kind
        obtain ⟨da, hda⟩ := qx sm.data
        have x0 : wr.cell? ⟨gS, oS + m * 5, none⟩ = some (.int .i64 kd) := by rw [<- hkd]; simpa [sigE, Nat.add_assoc] using HXS 0 _ rfl
        have x1 : wr.cell? ⟨gS, oS + m * 5 + 1, none⟩ = some (.string da) := by rw [<- hda]; simpa [sigE, Nat.add_assoc] using HXS 1 _ rfl
        have x2 : wr.cell? ⟨gS, oS + m * 5 + 2, none⟩ = some (.bool sm.self) := by simpa [sigE, Nat.add_assoc] using HXS 2 _ rfl
        have x3 : wr.cell? ⟨gS, oS + m * 5 + 3, none⟩ = some (.int .u8 sm.code) := by simpa [sigE, Nat.add_assoc] using HXS 3 _ rfl
        have x4 : wr.cell? ⟨gS, oS + m * 5 + 4, none⟩ = some (.int .i64 sm.n) := by simpa [sigE, Nat.add_assoc] using HXS 4 _ rfl
        rw [hkd] at HA HGT
        rw [hda] at HGT
        clear HXS hkd hda
        obtain ⟨w5, hw5⟩ := xq (wr.alloc (.cells #[.int .i64 kd, .string da, .bool sm.self, .int .u8 sm.code, .int .i64 sm.n] 40))
        obtain ⟨bs, hbs⟩ := xq wr.heap.size
        obtain ⟨D5, hD5⟩ := xq (lab D0 wr.heap.size 35)
        have HF5 : Fresh wr w5 := by rw [hw5]; exact (Touch.refl _ _).alloc _
        have HC5 : Ch D0 D5 wr w5 := Ch.old HF5 (fun b hb => by rw [hD5]; exact lab_old hb)
        have HB5 : Hid (Blk w5 bs 40 [.int .i64 kd, .string da, .bool sm.self, .int .u8 sm.code, .int .i64 sm.n] ∧ D5 bs = 35) := by
         constructor
         ·rw [hw5, hbs]; exact Blk.new wr _ _
         ·rw [hD5]; exact lab_new (by omega)
        have HT5 := lh (h1.old HF5 HC5.lab)
        have H35 := lh (h2.ch HC5)
        have h45 := HC5.blk h3.1 (by rw [h3.2]; decide)
        have H45 : Hid (Blk w5 ga 27 [.pointer (some ⟨na, 0, none⟩), .pointer (some ⟨nb, 0, none⟩)] ∧ D5 ga = 35) := ⟨h45.1, h45.2.trans h3.2⟩
        have HS5 : Hid (Sl sigE w5 (some ⟨gS, oS, none⟩) c4 sg ∧ D5 gS = q' + 8) := ⟨h4.touch HF5 (fun _ _ e => e), (HC5.lab gS HG).trans (h5 _ rfl)⟩
        clear h1 h2 h3 h4 h5 h45 HM
        go_upto_region 13 with (fail)
        rw [<- hw5, <- hbs]
        clear hw5 hbs hD5 HC5 HF5 x0 x1 x2 x3 x4
        have y0 : w5.cell? ⟨bs, 0, none⟩ = some (.int .i64 kd) := HB5.out.1.cell 0
        have y1' : w5.cell? ⟨bs, 1, none⟩ = some (.string da) := HB5.out.1.cell 1
        by_cases hk1 : kd = 1
        ·subst hk1
         have hlf := HLFT.out m
         have HRQ : Hid (Calls Tryz.prog 9 #[.pointer (some ⟨n', 0, none⟩), .agg #[.int .i64 2, .string { data := #[] }, .int .i64 0]] w5 (AskPost q' D5 w5 n' (En.request (Pr.acc y1 (sg.take m)) 2 Cn.no 0))) := by
          obtain ⟨cn, pc, un, sp, rp, A1, ca1, B1, cb1, hin⟩ := HT5.out.b
          exact nrequest_any hin HFY.out hlf 2 Cn.no 0 (by show 0 <= maxLen; unfold maxLen; decide)
         have HFN : Hid (∀ D6 w6, EndTo q' D5 D6 w5 w6 n' (En.request (Pr.acc y1 (sg.take m)) 2 Cn.no 0).1 -> Pr.Mid B w6 pa pb pg na nb ga q q' n n' x' y1 sg (some ⟨gS, oS, none⟩) c4 (Pr.SJ s j).got j (m + 1) ∧ w6.cell? ⟨bs, 0, none⟩ = some (.int .i64 1)) := fun D6 w6 he => by
          have hc := he.ch HT5.out.kk.2.1
          have h6 := HT5.out.snd he
          have h7 := hc.blk H45.out.1 (by rw [H45.out.2]; decide)
          have h8 := hc.blk HB5.out.1 (by rw [HB5.out.2]; decide)
          have ha := HA.out
          rw [if_pos rfl] at ha
          have hg := HGT.out
          rw [if_neg (by decide), List.append_nil] at hg
          have hkk := HT5.out.kk
          refine ⟨⟨D6, A0, c0, by rw [ha]; exact h6, by rw [hg]; exact H35.out.ch hc, ⟨h7.1, h7.2.trans H45.out.2⟩, HS5.out.1.touch he.touch (fun ad e => ?_), fun ad e => ?_⟩, h8.1.cell 0⟩
          ·injection e with e
           subst e
           have := HS5.out.2
           show ¬ (q' <= D5 gS ∧ D5 gS < q' + 8)
           omega
          ·injection e with e
           subst e
           exact (he.lab.1 gS (HS5.out.1.lt _ rfl)).trans HS5.out.2
         have HFY2 : Hid (En.Fit (Pr.acc y1 (sg.take (m + 1))) hj1 (hj2 + 64)) := by
          show En.Fit _ _ _
          rw [HA.out, if_pos rfl]
          exact En.request_ok HFY.out 2 Cn.no 0
         clear HA HGT HT5 H35 H45 HS5 HB5 HFY y1'
         go_upto_region 15 with (go_at_call 9; (with_reducible refine HRQ.out.mono ?_); rintro e w6 ⟨D6, A6, c6, rfl, h6, -, -⟩; obtain ⟨h7, y2⟩ := HFN.out D6 w6 h6; have HIJ := lh h7; clear h6 h7; simp only)
         clear HFN HRQ y0
         go_wp2_with fail
         refine ⟨⟨m + 1, by omega, by go_num, HIJ, HFY2⟩, ?_⟩
         simp [intOf]; omega
        ·have hk1' : (kd == 1) = false := by simpa using hk1
         by_cases hk8 : kd = 8 ∧ j = 0
         ·obtain ⟨rfl, rfl⟩ := hk8
          have HFY2 : Hid (En.Fit (Pr.acc y1 (sg.take (m + 1))) hj1 (hj2 + 64)) := by
           show En.Fit _ _ _
           rw [HA.out, if_neg hk1]
           exact HFY.out
          obtain ⟨G, hG⟩ := xq ((Pr.SJ s 0).got ++ Pr.gets (sg.take m))
          have H36 : Hid (Bx3 B D5 w5 pa pb pg na nb A0 c0 G) := by rw [hG]; exact H35.out
          have HGL : Hid (G.length <= 100000) := by
           have h1 := HG1.out
           rw [Z2.out, HSG.out, if_pos rfl, List.length_append] at h1
           dsimp only at h1
           have h2 : (Pr.gets (sg.take m)).length <= (Pr.gets sg).length := by
            have : Pr.gets sg = Pr.gets (sg.take m) ++ Pr.gets (sg.drop m) := by rw [<- Pr.gets_append, List.take_append_drop]
            rw [this, List.length_append]
            omega
           show G.length <= _
           rw [hG, List.length_append]
           omega
          have p0 : w5.cell? ⟨pg, 0, none⟩ = some (.slice A0 G.length c0) := H36.out.bg.1.cell 0
          have HFN : Hid (∀ A' c' L w', L = G ++ [da] -> Sl strE w' A' c' L -> Touch (fun k => A0.map Addr.block = some k) (w5.alloc (.cells #[.string da] 9)) w' -> (A'.map Addr.block = A0.map Addr.block ∨ A'.map Addr.block = some (w5.alloc (.cells #[.string da] 9)).heap.size) -> Pr.Mid B (w'.setCell ⟨pg, 0, none⟩ (.slice A' L.length c')) pa pb pg na nb ga q q' n n' x' y1 sg (some ⟨gS, oS, none⟩) c4 (Pr.SJ s 0).got 0 (m + 1) ∧ w'.cell? ⟨pg, 0, none⟩ = some (.slice A0 G.length c0) ∧ w'.frozen? ⟨pg, 0, none⟩ = false) := by
           intro A' c' L w' hL hs ht hb
           have hf : Fresh w5 (w5.alloc (.cells #[.string da] 9)) := (Touch.refl _ _).alloc _
           have hD : ∀ b, b < w5.heap.size -> lab D5 w5.heap.size 35 b = D5 b := fun b hb => lab_old hb
           have hB := H36.out.alloc hf hD
           obtain ⟨D7, e1, e2, T, e3, e4⟩ := hB.grow hs ht hb
           have hbp := ht.blk hB.bg.1 (fun e => by
            have h2 := hB.bg.2
            cases A0 with
            |none => cases e
            |some ad =>
             injection e with e
             have h1 := hB.sa ad rfl
             rw [e] at h1
             omega)
           refine ⟨?_, hbp.cell 0, hbp.frozen 0⟩
           have k1 := hf.blk H45.out.1 (fun e => e)
           have k2 : lab D5 w5.heap.size 35 ga = 35 := (hD ga H45.out.1.lt).trans H45.out.2
           have k3 := HS5.out.1.lt _ rfl
           have k4 : lab D5 w5.heap.size 35 gS = q' + 8 := (hD gS k3).trans HS5.out.2
           have hkk := HT5.out.kk
           refine ⟨D7, A', c', by rw [HA.out, if_neg hk1]; exact (HT5.out.old hf hD).off e3 (fun b e => (e4 b e).1) e1, ?_, ⟨e3.blk k1 (fun e => by have := e4 _ e; omega), (e1 ga k1.lt).trans k2⟩, (HS5.out.1.touch hf (fun _ _ e => e)).touch e3 (fun ad e e5 => ?_), fun ad e => ?_⟩
           ·have e : ((Pr.SJ s 0).got ++ if 0 = 0 then Pr.gets (sg.take (m + 1)) else []) = L := by
             rw [if_pos rfl, HGT.out, if_pos rfl, hL, hG, List.append_assoc]
            rw [e]
            exact e2
           ·injection e with e
            subst e
            have := e4 _ e5
            have k4 : lab D5 w5.heap.size 35 gS = q' + 8 := k4
            have hks := HT5.out.ks
            simp only at this
            omega
           ·injection e with e
            subst e
            exact (e1 gS (Nat.lt_of_lt_of_le k3 hf.size)).trans k4
          clear HA HGT HT5 H35 H45 HS5 HB5 HFY hG
          go_wp2_with (at_builtin; refine app_str rfl rfl (l := G) (l2 := [da]) rfl rfl (H36.out.sl.alloc _) (Sl.rd (Sl.lit strE w5 _ rfl #[.string da] [da] rfl 1 rfl (by decide))) (by have := HGL.out; simp; omega) ?_; intro A7 c7 L7 w7 hL7 hs7 ht7 hb7; obtain ⟨HIJ', v0, v1⟩ := HFN.out A7 c7 L7 w7 hL7.out hs7 ht7 hb7; have HIJ := lh HIJ'; clear HIJ' hL7 hs7 ht7 hb7)
          refine ⟨⟨m + 1, by omega, by go_num, HIJ, HFY2⟩, ?_⟩
          simp [intOf]; omega
         ·have HFY2 : Hid (En.Fit (Pr.acc y1 (sg.take (m + 1))) hj1 (hj2 + 64)) := by
           show En.Fit _ _ _
           rw [HA.out, if_neg hk1]
           exact HFY.out
          have HIJ : Hid (Pr.Mid B w5 pa pb pg na nb ga q q' n n' x' y1 sg (some ⟨gS, oS, none⟩) c4 (Pr.SJ s j).got j (m + 1)) := by
           refine ⟨D5, A0, c0, by rw [HA.out, if_neg hk1]; exact HT5.out, ?_, H45.out, HS5.out.1, fun ad e => by injection e with e; subst e; exact HS5.out.2⟩
           have e : (if j = 0 then Pr.gets (sg.take (m + 1)) else []) = (if j = 0 then Pr.gets (sg.take m) else []) := by
            by_cases hj0 : j = 0
            ·rw [if_pos hj0, if_pos hj0, HGT.out, if_neg (fun e => hk8 ⟨e, hj0⟩), List.append_nil]
            ·rw [if_neg hj0, if_neg hj0]
           rw [e]
           exact H35.out
          clear HA HGT HT5 H35 H45 HS5 HB5 HFY y1'
          have hk : (kd == 8) = false ∨ (kd == 8) = true ∧ ((j : Int) == 0) = false := by
           by_cases h8 : kd = 8
           ·exact .inr ⟨by simpa using h8, by
             have : ¬ j = 0 := fun e => hk8 ⟨h8, e⟩
             simpa using this⟩
           ·exact .inl (by simpa using h8)
          clear hk8
          rcases hk with hk | ⟨hk, hk0⟩
          ·go_wp2_with fail
           refine ⟨⟨m + 1, by omega, by go_num, HIJ, HFY2⟩, ?_⟩
           simp [intOf]; omega
          ·go_wp2_with fail
           refine ⟨⟨m + 1, by omega, by go_num, HIJ, HFY2⟩, ?_⟩
           simp [intOf]; omega
       ·obtain rfl : m = sg.length := by omega
        have hdm : decide ((sg.length : Int) < (sg.length : Int)) = false := decide_eq_false (by omega)
        obtain ⟨D0, A0, c0, h1, h2, h3, h4, h5⟩ := HM.out
        rw [List.take_length] at h1 h2
        have hfit := HFY.out
        rw [List.take_length] at hfit
        have hlf := HLFT.out sg.length
        rw [List.take_length] at hlf
        have HRQ : Hid (Calls Tryz.prog 9 #[.pointer (some ⟨n', 0, none⟩), .agg #[.int .i64 10, .string { data := #[] }, .int .i64 64]] wr (AskPost q' D0 wr n' (En.request (Pr.acc y1 sg) 10 Cn.no 64))) := by
         obtain ⟨cn, pc, un, sp, rp, A1, ca1, B1, cb1, hin⟩ := h1.b
         exact nrequest_any hin hfit hlf 10 Cn.no 64 (by show 0 <= maxLen; unfold maxLen; decide)
        have HFN : Hid (∀ D5 w5, EndTo q' D0 D5 wr w5 n' (En.request (Pr.acc y1 sg) 10 Cn.no 64).1 -> ∃ D A c, Two 0 16 D w5 na nb (Pr.SJ s (j + 1)).a (Pr.SJ s (j + 1)).b ∧ Bx3 B D w5 pa pb pg na nb A c (Pr.SJ s (j + 1)).got ∧ Blk w5 ga 27 [.pointer (some ⟨na, 0, none⟩), .pointer (some ⟨nb, 0, none⟩)] ∧ D ga = 35) := fun D5 w5 he => by
         have hc := he.ch h1.kk.2.1
         have h6 := h1.snd he
         have h7 := hc.blk h3.1 (by rw [h3.2]; decide)
         have e : Pr.hears y u l = (En.request (Pr.acc y1 sg) 10 Cn.no 64).1 := by unfold Pr.hears; rw [HSG.out]
         rw [<- e] at h6
         refine ⟨D5, A0, c0, Z1.out _ _ h6, ?_, h7.1, h7.2.trans h3.2⟩
         rw [Z2.out, HSG.out]
         exact h2.ch hc
        clear h1 h2 h3 h4 h5 hfit hlf HM HFY HLFT Z1 Z2
        go_wp2_with (go_at_call 9; (with_reducible refine HRQ.out.mono ?_); rintro e w5 ⟨D5, A5, c5, rfl, h6, -, -⟩; have HIJ := lh (HFN.out D5 w5 h6); clear h6; simp only)
        refine ⟨⟨j + 1, by omega, by go_num, by rw [Z3.out], HIJ⟩, ?_⟩
        simp [intOf]; omega
    ·obtain rfl : j = 2 := by omega
     have HE := lh (HEND.out _ ⟨by obtain ⟨D, A, c, h2, h3, -⟩ := HI.out; exact ⟨D, A, c, h2, h3⟩⟩)
     have hd : decide (((2 : Nat) : Int) < 2) = false := by decide
     clear HI HEND
     obtain ⟨z, hz⟩ := qx (Pr.BJ s 2)
     rw [hz] at HE
     rw [hz]
     clear hz
     go_wp2_with fail
     have hK := HK.out
     cases z
     ·refine ⟨⟨false, rfl, .inr ⟨rfl, HE.out.2 rfl⟩⟩, ?_⟩
      show 0 < lft B _ pa pb pg na nb t' + 1
      omega
     ·obtain ⟨i, hi, hik⟩ := HE.out.1 rfl
      refine ⟨⟨true, rfl, .inl ⟨rfl, i, hi⟩⟩, ?_⟩
      have := (lft_spec ⟨i, hi⟩).2 i hi
      show lft B _ pa pb pg na nb t' + 1 < lft B _ pa pb pg na nb t' + 1
      omega
end

def PrK (D : Nat -> Nat) (w3 w : World) (pa pb pg na nb : Nat) (t : Pr.St) (A : Option Addr) (c : Nat) (az : List ByteArray) : Prop :=
 ∃ Ag cg, Two 0 16 D w na nb t.a t.b ∧ Bx3 ⟨w3, fun b => b < w3.heap.size⟩ D w pa pb pg na nb Ag cg t.got ∧ Sl strE w A c az ∧ ∀ ad, A = some ad -> D ad.block = 40 ∧ w3.heap.size <= ad.block
def PrB (w3 w : World) (A : Option Addr) : PrBase := ⟨w, fun b => b < w3.heap.size ∨ A.map Addr.block = some b⟩
section
variable {D D' : Nat -> Nat} {w3 w w' : World} {pa pb pg na nb : Nat} {t t' : Pr.St} {A A' : Option Addr} {c c' : Nat} {az L : List ByteArray} {z : En.X}
theorem PrK.first (h : PrAt ⟨w3, fun b => b < w3.heap.size⟩ w pa pb pg na nb t) : ∃ D, PrK D w3 w pa pb pg na nb t none 0 [] := by
 obtain ⟨D, Ag, cg, h1, h2⟩ := h.ex
 exact ⟨D, Ag, cg, h1, h2, Sl.nil _ _, fun ad e => by cases e⟩
theorem PrK.fresh (h : PrK D w3 w pa pb pg na nb t A c az) : Fresh w3 w := by
 obtain ⟨Ag, cg, h1, h2, h3, h4⟩ := h
 exact h2.fr.mono fun b hb e => e hb
theorem PrK.at_ (h : PrK D w3 w pa pb pg na nb t A c az) : PrAt (PrB w3 w A) w pa pb pg na nb t := by
 obtain ⟨Ag, cg, h1, h2, h3, h4⟩ := h
 refine ⟨D, Ag, cg, h1, h2.rebase fun b hb => ?_⟩
 rcases hb with hb | hb
 ·exact ⟨by have := h2.fr.size; show b < w.heap.size; have : w3.heap.size <= w.heap.size := this; omega, (h2.old b hb).2⟩
 ·cases A with
  |none => cases hb
  |some ad => injection hb with hb; subst hb; exact ⟨h3.lt ad rfl, (h4 ad rfl).1⟩
theorem PrK.back (h : PrK D w3 w pa pb pg na nb t A c az) (h' : PrAt (PrB w3 w A) w' pa pb pg na nb t') : ∃ D', PrK D' w3 w' pa pb pg na nb t' A c az := by
 obtain ⟨Ag, cg, h1, h2, h3, h4⟩ := h
 obtain ⟨D', Ag', cg', k1, k2⟩ := h'.ex
 refine ⟨D', Ag', cg', k1, k2.back h2.fr (fun b hb => ⟨.inl hb, hb⟩), h3.touch k2.fr (fun ad e hn => hn (.inr (by rw [e]; rfl))), fun ad e => ⟨(k2.old ad.block (.inr (by rw [e]; rfl))).2, (h4 ad e).2⟩⟩
theorem PrK.sl (h : PrK D w3 w pa pb pg na nb t A c az) : Sl strE w A c az := by
 obtain ⟨Ag, cg, h1, h2, h3, h4⟩ := h
 exact h3
theorem PrK.old (h : PrK D w3 w pa pb pg na nb t A c az) (ht : Fresh w w') (hD : ∀ b, b < w.heap.size -> D' b = D b) : PrK D' w3 w' pa pb pg na nb t A c az := by
 obtain ⟨Ag, cg, h1, h2, h3, h4⟩ := h
 exact ⟨Ag, cg, h1.old ht hD, h2.alloc ht hD, h3.touch ht (fun _ _ e => e), fun ad e => ⟨(hD _ (h3.lt ad e)).trans (h4 ad e).1, (h4 ad e).2⟩⟩
theorem PrK.fst (h : PrK D w3 w pa pb pg na nb t A c az) (he : EndTo 0 D D' w w' na z) : PrK D' w3 w' pa pb pg na nb ⟨z, t.b, t.got⟩ A c az := by
 obtain ⟨Ag, cg, h1, h2, h3, h4⟩ := h
 exact ⟨Ag, cg, h1.fst he, h2.ch (he.ch (by decide)), h3.touch he.touch (fun ad e e2 => by have := (h4 ad e).1; unfold All at e2; omega), fun ad e => ⟨(he.lab.1 _ (h3.lt ad e)).trans (h4 ad e).1, (h4 ad e).2⟩⟩
theorem PrK.snd (h : PrK D w3 w pa pb pg na nb t A c az) (he : EndTo 16 D D' w w' nb z) : PrK D' w3 w' pa pb pg na nb ⟨t.a, z, t.got⟩ A c az := by
 obtain ⟨Ag, cg, h1, h2, h3, h4⟩ := h
 exact ⟨Ag, cg, h1.snd he, h2.ch (he.ch (by decide)), h3.touch he.touch (fun ad e e2 => by have := (h4 ad e).1; unfold All at e2; omega), fun ad e => ⟨(he.lab.1 _ (h3.lt ad e)).trans (h4 ad e).1, (h4 ad e).2⟩⟩
theorem PrK.app (h : PrK D w3 w pa pb pg na nb t A c az) (hl : Sl strE w' A' c' L) (ht : Touch (fun k => A.map Addr.block = some k) w w') (hb : A'.map Addr.block = A.map Addr.block ∨ A'.map Addr.block = some w.heap.size) : ∃ D', PrK D' w3 w' pa pb pg na nb t A' c' L := by
 obtain ⟨Ag, cg, h1, h2, h3, h4⟩ := h
 have hD : ∀ b, b < w.heap.size -> lab D w.heap.size 40 b = D b := fun b hb => lab_old hb
 have hA : ∀ k, A.map Addr.block = some k -> D k = 40 ∧ w3.heap.size <= k ∧ k < w.heap.size := fun k e => by
  cases A with
  |none => cases e
  |some ad => injection e with e; subst e; exact ⟨(h4 ad rfl).1, (h4 ad rfl).2, h3.lt ad rfl⟩
 have hs : w3.heap.size <= w.heap.size := h2.fr.size
 refine ⟨lab D w.heap.size 40, Ag, cg, h1.off ht (fun b e => by have := hA b e; omega) hD, h2.keep ht (fun b e => .inr (.inr ⟨(hA b e).1, fun e2 => by have e2 : b < w3.heap.size := e2; have := hA b e; omega⟩)) hD, hl, fun ad e => ?_⟩
 rcases hb with hb | hb
 ·rw [e] at hb
  have := hA ad.block hb.symm
  exact ⟨(hD _ this.2.2).trans this.1, this.2.1⟩
 ·rw [e] at hb
  injection hb with hb
  rw [hb]
  exact ⟨lab_new (Nat.le_refl _), hs⟩
end
theorem vars_conn (x : En.X) (A : Option Addr) (c : Nat) (W : World) : (Instr.field 54 (.agg (En.varsC x A c).toArray) 0).run Tryz.prog W = .ok (.agg (En.connV x.conn).toArray) W := by
 obtain ⟨x0, x1, x2, x3, x4, x5, x6, x7, x8, x9, ep⟩ := x
 cases ep <;> kernel_rfl
theorem vars_state (s : Cn.S) (W : World) : (Instr.field 47 (.agg (En.connV s).toArray) 0).run Tryz.prog W = .ok (.int .i64 s.state) W := by kernel_rfl
theorem vars_send (x : En.X) (e : Sf.S × Rf.S) (he : x.ep = some e) (A : Option Addr) (c : Nat) (W : World) : (Instr.field 54 (.agg (En.varsC x A c).toArray) 1).run Tryz.prog W = .ok (.agg (En.sendV (Sf.prog e.1) A c).toArray) W := by
 obtain ⟨x0, x1, x2, x3, x4, x5, x6, x7, x8, x9, ep⟩ := x
 subst he
 kernel_rfl
theorem vars_ms (s : Sd.S) (A : Option Addr) (c : Nat) (W : World) : (Instr.field 49 (.agg (En.sendV s A c).toArray) 2).run Tryz.prog W = .ok (.int .u32 s.ms) W := by kernel_rfl
end Go.Proofs.YtnenaemincfgpaaGreat
