/-
  Boxes of a function's own, known whole; what may be touched beside them; two structs handed back. Each step leaves a world that is a letter. No program is named.
-/
import Derived.Test.YtipaobpmojahaaaGreatRow2
import Derived.Test.YtipaobpmojahaaaGreatDetP
import Derived.Test.YtipaobpmojahaaaGreatRPdu
namespace Go.Proofs.YtipaobpmojahaaaGreat
open Go.RowKit

structure Bx where
 b : Nat
 t : TypeId
 cs : List Value
def KB (K : Nat -> Prop) (bs : List Nat) : Nat -> Prop := fun k => K k ∨ k ∈ bs
structure FB (K : Nat -> Prop) (bs : List Nat) (w0 w : World) (L : List Bx) : Prop where
 t : Touch (OfAct K) w0 w
 bx : ∀ x ∈ L, Blk w x.b x.t x.cs
 eq : L.map (·.b) = bs
 nd : bs.Nodup
 new : ∀ b ∈ bs, w0.heap.size <= b
 lim : ∀ k, K k -> k < w0.heap.size
section
variable {K : Nat -> Prop} {bs : List Nat} {w0 w w' : World} {L : List Bx} {x : Bx}
theorem FB.at_ (h : FB K bs w0 w L) (i : Nat) (hx : L[i]? = some x) : Blk w x.b x.t x.cs := h.bx x (List.mem_of_getElem? hx)
theorem FB.mem (h : FB K bs w0 w L) (i : Nat) (hx : L[i]? = some x) : x.b ∈ bs := by
 rw [<- h.eq]
 exact List.mem_map.2 ⟨x, List.mem_of_getElem? hx, rfl⟩
theorem FB.lt (h : FB K bs w0 w L) : ∀ b ∈ bs, b < w.heap.size := fun b hb => by
 rw [<- h.eq] at hb
 obtain ⟨x, hx, rfl⟩ := List.mem_map.1 hb
 exact (h.bx x hx).lt
theorem FB.klim (h : FB K bs w0 w L) : ∀ k, KB K bs k -> k < w.heap.size := fun k hk => hk.elim (fun e => Nat.lt_of_lt_of_le (h.lim k e) h.t.size) (h.lt k)
theorem FB.nil (w : World) (hl : ∀ k, K k -> k < w.heap.size) : FB K [] w w [] := ⟨Touch.refl _ _, fun _ e => (by cases e), rfl, List.nodup_nil, fun _ e => (by cases e), hl⟩
theorem FB.act (h : FB K bs w0 w L) (ht : Touch (OfAct (KB K bs)) w w') : FB K bs w0 w' L :=
 ⟨h.t.trans ht (fun k _ e e2 => e (.inl e2)), fun x hx => ht.keptB (h.bx x hx) (.inr (by rw [<- h.eq]; exact List.mem_map.2 ⟨x, hx, rfl⟩)), h.eq, h.nd, h.new, h.lim⟩
theorem FB.fresh (h : FB K bs w0 w L) (ht : Fresh w w') : FB K bs w0 w' L := h.act (ht.mono fun _ _ e => e.elim)
theorem FB.alloc (h : FB K bs w0 w L) (t : TypeId) (cs : List Value) : FB K (bs ++ [w.heap.size]) w0 (w.alloc (.cells cs.toArray t)) (L ++ [⟨w.heap.size, t, cs⟩]) := by
 have hf : Fresh w (w.alloc (.cells cs.toArray t)) := (Touch.refl _ _).alloc _
 refine ⟨h.t.trans hf (fun _ _ e => e.elim), fun x hx => ?_, by rw [List.map_append, h.eq]; rfl, ?_, fun b hb => ?_, h.lim⟩
 ·rcases List.mem_append.1 hx with hx | hx
  ·exact hf.blk (h.bx x hx) (fun e => e)
  ·rw [List.mem_singleton.1 hx]; exact Blk.new w t cs
 ·rw [List.nodup_append]
  refine ⟨h.nd, by simp, fun a ha b hb e => ?_⟩
  rw [List.mem_singleton.1 hb] at e
  have := h.lt a ha
  omega
 ·rcases List.mem_append.1 hb with hb | hb
  ·exact h.new b hb
  ·rw [List.mem_singleton.1 hb]; exact h.t.size
theorem FB.al (h : FB K bs w0 w L) (t : TypeId) (cs : List Value) (b : Nat) (hb : w.heap.size = b) : FB K (bs ++ [b]) w0 (w.alloc (.cells cs.toArray t)) (L ++ [⟨b, t, cs⟩]) := by
 subst hb
 exact h.alloc t cs
theorem FB.put (h : FB K bs w0 w L) (i : Nat) (hx : L[i]? = some x) {cs : List Value} (hb : Blk w' x.b x.t cs) (ht : Touch (· = x.b) w w') : FB K bs w0 w' (L.set i ⟨x.b, x.t, cs⟩) := by
 have hm := h.mem i hx
 have hi : i < L.length := (List.getElem?_eq_some_iff.1 hx).1
 have hnd := h.nd
 refine ⟨h.t.trans ht (fun k hk e e2 => ?_), fun y hy => ?_, ?_, hnd, h.new, h.lim⟩
 ·have e : k = x.b := e
  have := h.new _ hm
  omega
 ·obtain ⟨j, hj, rfl⟩ := List.getElem_of_mem hy
  rw [List.length_set] at hj
  rw [List.getElem_set]
  by_cases e : i = j
  ·rw [if_pos e]; exact hb
  ·rw [if_neg e]
   refine ht.blk (h.bx _ (List.getElem_mem hj)) (fun e2 => e ?_)
   have e3 : L[i] = x := (List.getElem?_eq_some_iff.1 hx).2
   rw [<- h.eq] at hnd
   have h1 := (List.getElem_inj (xs := L.map Bx.b) (i := i) (j := j) (h₀ := by simpa using hi) (h₁ := by simpa using hj) hnd).1
   exact h1 (by simp only [List.getElem_map]; rw [e3]; exact e2.symm)
 ·rw [List.map_set, h.eq]
  have : bs[i]? = some x.b := by rw [<- h.eq, List.getElem?_map, hx]; rfl
  have hib := (List.getElem?_eq_some_iff.1 this).1
  have hiv := (List.getElem?_eq_some_iff.1 this).2
  show bs.set i x.b = bs
  rw [<- hiv]
  exact List.set_getElem_self hib
theorem FB.put1 (h : FB K bs w0 w L) (i : Nat) (hx : L[i]? = some x) (j : Nat) (u : Value) : FB K bs w0 (w.setCell ⟨x.b, j, none⟩ u) (L.set i ⟨x.b, x.t, x.cs.set j u⟩) := h.put i hx ((h.at_ i hx).set j u) (Touch.set1 w x.b j u)
theorem FB.put2 {y : Bx} (h : FB K bs w0 w L) (i j : Nat) (hx : L[i]? = some x) (hy : L[j]? = some y) (_hij : i ≠ j) {cs ds : List Value} (hb : Blk w' x.b x.t cs) (hb2 : Blk w' y.b y.t ds) (ht : Touch (fun k => k = x.b ∨ k = y.b) w w') : FB K bs w0 w' ((L.set i ⟨x.b, x.t, cs⟩).set j ⟨y.b, y.t, ds⟩) := by
 have hi : i < L.length := (List.getElem?_eq_some_iff.1 hx).1
 have hj : j < L.length := (List.getElem?_eq_some_iff.1 hy).1
 have e1 : L[i] = x := (List.getElem?_eq_some_iff.1 hx).2
 have e2 : L[j] = y := (List.getElem?_eq_some_iff.1 hy).2
 have hnd := h.nd
 rw [<- h.eq] at hnd
 have hm : ((L.set i ⟨x.b, x.t, cs⟩).set j ⟨y.b, y.t, ds⟩).map (·.b) = bs := by
  rw [<- h.eq]
  refine List.ext_getElem (by simp) fun k hk hk2 => ?_
  simp only [List.getElem_map, List.getElem_set]
  split
  ·rename_i e; subst e; rw [<- e2]
  ·split
   ·rename_i e; subst e; rw [<- e1]
   ·rfl
 have inj : ∀ k (hk : k < L.length) l (hl : l < L.length), L[k].b = L[l].b -> k = l := fun k hk l hl e =>
  (List.getElem_inj (xs := L.map Bx.b) (i := k) (j := l) (h₀ := by simpa using hk) (h₁ := by simpa using hl) hnd).1 (by simpa using e)
 refine ⟨h.t.trans ht (fun k hk e e3 => ?_), fun z hz => ?_, hm, h.nd, h.new, h.lim⟩
 ·have h1 := h.new _ (h.mem i hx)
  have h2 := h.new _ (h.mem j hy)
  rcases e with e | e <;> omega
 ·obtain ⟨k, hk, rfl⟩ := List.getElem_of_mem hz
  simp only [List.length_set] at hk
  rw [List.getElem_set]
  by_cases ej : j = k
  ·rw [if_pos ej]; exact hb2
  ·rw [if_neg ej, List.getElem_set]
   by_cases ei : i = k
   ·rw [if_pos ei]; exact hb
   ·rw [if_neg ei]
    refine ht.blk (h.bx _ (List.getElem_mem hk)) (fun e => ?_)
    rcases e with e | e
    ·exact ei (inj i hi k hk (by rw [e1]; exact e.symm))
    ·exact ej (inj j hj k hk (by rw [e2]; exact e.symm))
end

namespace Dag
def r2val (v1 v2 : Value) (_ : Unit) (i : Nat) : Value := [v1, v2].getD i undef
def r2slot (s1 s2 : Nat) (i : Nat) : Nat := [s1, s2, s1 + s2 + 1, s1 + s2 + 2].getD i 0
def r2WD (w : World) (b1 b2 c1 c2 : Nat) (T1 T2 : TypeId) (cs1 cs2 z1 z2 : List Value) (_ : Unit) (d : Nat -> Bool) (W : World) : Prop :=
 Touch (fun k => k = c1 ∨ k = c2) w W ∧ Blk W b1 T1 cs1 ∧ Blk W b2 T2 cs2 ∧ Blk W c1 T1 (if d 2 = true then cs1 else z1) ∧ Blk W c2 T2 (if d 3 = true then cs2 else z2)
theorem r2WD.upd {w : World} {b1 b2 c1 c2 : Nat} {T1 T2 : TypeId} {cs1 cs2 z1 z2 : List Value} {u : Unit} {d : Nat -> Bool} {W : World} (h : r2WD w b1 b2 c1 c2 T1 T2 cs1 cs2 z1 z2 u d W) {i : Nat} (h2 : i ≠ 2) (h3 : i ≠ 3) : r2WD w b1 b2 c1 c2 T1 T2 cs1 cs2 z1 z2 u (upd d i true) W := by
 unfold r2WD
 rw [upd_far _ _ (Ne.symm h2), upd_far _ _ (Ne.symm h3)]
 exact h
theorem ret2 {P : Program} {Q : Exit -> Act -> World -> Prop} {id : Nat} {a : Act} {w : World} (hm : P.follows .mixedOrders = true) (o0 o1 o2 o3 : Oper) {s1 s2 x1 x2 y1 y2 : Nat} {T1 T2 : TypeId} {d1 d2 : TypeDesc} {b1 b2 c1 c2 : Nat} {cs1 cs2 z1 z2 : List Value}
  (g0 : o0.guard = none) (g1 : o1.guard = none) (g2 : o2.guard = none) (g3 : o3.guard = none) (e0 : o0.dst = some s1) (e1 : o1.dst = some s2) (e2 : o2.dst = none) (e3 : o3.dst = none)
  (h0 : o0.op = .load T1 (.tmp x1)) (h1 : o1.op = .load T2 (.tmp x2)) (h2 : o2.op = .store T1 (.tmp y1) (.tmp s1)) (h3 : o3.op = .store T2 (.tmp y2) (.tmp s2))
  (l2 : has [o0, o1, o2, o3] 2 0 = true) (l3 : has [o0, o1, o2, o3] 3 1 = true) (htop : topB #[o0, o1, o2, o3] = true)
  (hs : s1 ≠ s2 ∧ s1 < a.tmps.size ∧ s2 < a.tmps.size ∧ (x1 ≠ s1 ∧ x1 ≠ s2) ∧ (x2 ≠ s1 ∧ x2 ≠ s2) ∧ (y1 ≠ s1 ∧ y1 ≠ s2) ∧ (y2 ≠ s1 ∧ y2 ≠ s2))
  (q1 : a.eval (.tmp x1) = .pointer (some ⟨b1, 0, none⟩)) (q2 : a.eval (.tmp x2) = .pointer (some ⟨b2, 0, none⟩)) (q3 : a.eval (.tmp y1) = .pointer (some ⟨c1, 0, none⟩)) (q4 : a.eval (.tmp y2) = .pointer (some ⟨c2, 0, none⟩))
  (B1 : Blk w b1 T1 cs1) (B2 : Blk w b2 T2 cs2) (C1 : Blk w c1 T1 z1) (C2 : Blk w c2 T2 z2) (hne : (b1 ≠ c1 ∧ b1 ≠ c2) ∧ (b2 ≠ c1 ∧ b2 ≠ c2) ∧ c1 ≠ c2)
  (hl1 : cs1.length = z1.length) (hl2 : cs2.length = z2.length) (hu1 : P.underlying T1 = some d1) (hd1 : d1.isRow = true) (hi1 : (P.info? T1).map (·.size) = some cs1.length) (hu2 : P.underlying T2 = some d2) (hd2 : d2.isRow = true) (hi2 : (P.info? T2).map (·.size) = some cs2.length)
  (m1 : ∀ v ∈ cs1, v.oneCell' = true) (m2 : ∀ v ∈ cs2, v.oneCell' = true)
  (hend : ∀ w', Blk w' c1 T1 cs1 -> Blk w' c2 T2 cs2 -> Touch (fun k => k = c1 ∨ k = c2) w w' -> Q .normal ((a.put (some s1) (.agg cs1.toArray)).put (some s2) (.agg cs2.toArray)) w') : (Code.region id #[o0, o1, o2, o3] true).wp P Q a w := by
 obtain ⟨n12, z1s, z2s, nx1, nx2, ny1, ny2⟩ := hs
 have hsl : ∀ k, k ∉ [s1, s2] ↔ k ≠ s1 ∧ k ≠ s2 := fun k => by simp
 refine detP (l := [o0, o1, o2, o3]) hm 4 [s1, s2] (r2slot s1 s2) (r2val (.agg cs1.toArray) (.agg cs2.toArray)) (r2WD w b1 b2 c1 c2 T1 T2 cs1 cs2 z1 z2) () (fun _ k => if k = s1 then .agg cs1.toArray else .agg cs2.toArray) rfl ?_ ?_
  ⟨(Touch.refl _ _).drew, (Touch.refl (fun _ => False) w).drew.blk B1 (fun e => e), (Touch.refl (fun _ => False) w).drew.blk B2 (fun e => e), (Touch.refl (fun _ => False) w).drew.blk C1 (fun e => e), (Touch.refl (fun _ => False) w).drew.blk C2 (fun e => e)⟩ htop ⟨?_, ?_, ?_, ?_, trivial⟩ ?_ ?_
 ·intro i j hi hj e
  rcases (show i = 0 ∨ i = 1 ∨ i = 2 ∨ i = 3 by omega) with rfl | rfl | rfl | rfl <;> rcases (show j = 0 ∨ j = 1 ∨ j = 2 ∨ j = 3 by omega) with rfl | rfl | rfl | rfl <;> simp [r2slot] at e <;> first | rfl | omega
 ·intro i hi e
  rcases (show i = 0 ∨ i = 1 ∨ i = 2 ∨ i = 3 by omega) with rfl | rfl | rfl | rfl
  ·simp [e0] at e
  ·simp [e1] at e
  ·simp [r2slot]; omega
  ·simp [r2slot]; omega
 ·refine PStep.pure s1 g0 e0 rfl (by simp) (fun b d w h => h.upd (by decide) (by decide)) (fun b d R W hp hm hW => ?_)
  exact exec_loadB h0 ((hm.old x1 ((hsl _).2 nx1)).trans q1) hW.2.1.range hu1 hd1 hi1
 ·refine PStep.pure s2 g1 e1 rfl (by simp) (fun b d w h => h.upd (by decide) (by decide)) (fun b d R W hp hm hW => ?_)
  exact exec_loadB h1 ((hm.old x2 ((hsl _).2 nx2)).trans q2) hW.2.2.1.range hu2 hd2 hi2
 ·refine ⟨g2, fun s e => (by rw [e2] at e; cases e), fun b d R W hi hp hcl hm hW => ?_⟩
  have hB := hW.2.2.2.1
  rw [hi] at hB
  have ht : Touch (· = c1) W (W.setCells c1 0 cs1) := Touch.setCells (S := (· = c1)) rfl _ _ (Touch.refl _ _)
  have qs : R.eval (.tmp s1) = .agg cs1.toArray := hm.got 0 (by decide) (hp 0 l2) (by simp [r2slot]) z1s
  refine .skip e2 undef (W.setCells c1 0 cs1) (exec_storeB h2 ((hm.old y1 ((hsl _).2 ny1)).trans q3) qs (hB.there_at 0 (by simp; exact Nat.le_of_eq hl1)) hi1 m1) ⟨(), rfl, fun _ _ _ => rfl, hW.1.trans ht (fun k hk e => .inl e), ht.blk hW.2.1 hne.1.1, ht.blk hW.2.2.1 hne.2.1.1, ?_, ?_⟩
  ·rw [upd_same, if_pos rfl]
   exact hB.setCells hl1
  ·rw [upd_far _ _ (by decide)]
   exact ht.blk hW.2.2.2.2 (Ne.symm hne.2.2)
 ·refine ⟨g3, fun s e => (by rw [e3] at e; cases e), fun b d R W hi hp hcl hm hW => ?_⟩
  have hB := hW.2.2.2.2
  rw [hi] at hB
  have ht : Touch (· = c2) W (W.setCells c2 0 cs2) := Touch.setCells (S := (· = c2)) rfl _ _ (Touch.refl _ _)
  have qs : R.eval (.tmp s2) = .agg cs2.toArray := hm.got 1 (by decide) (hp 1 l3) (by simp [r2slot]) z2s
  refine .skip e3 undef (W.setCells c2 0 cs2) (exec_storeB h3 ((hm.old y2 ((hsl _).2 ny2)).trans q4) qs (hB.there_at 0 (by simp; exact Nat.le_of_eq hl2)) hi2 m2) ⟨(), rfl, fun _ _ _ => rfl, hW.1.trans ht (fun k hk e => .inr e), ht.blk hW.2.1 hne.1.2, ht.blk hW.2.2.1 hne.2.1.2, ?_, ?_⟩
  ·rw [upd_far _ _ (by decide)]
   exact ht.blk hW.2.2.2.1 hne.2.2
  ·rw [upd_same, if_pos rfl]
   exact hB.setCells hl2
 ·intro b k hk
  rcases List.mem_cons.1 hk with rfl | hk
  ·exact ⟨0, by decide, rfl, if_pos rfl⟩
  ·rw [List.mem_singleton.1 hk]
   exact ⟨1, by decide, rfl, if_neg (Ne.symm n12)⟩
 ·intro b d w' hd hW
  have h1 := hW.2.2.2.1
  have h2 := hW.2.2.2.2
  rw [if_pos (hd 2 (by decide))] at h1
  rw [if_pos (hd 3 (by decide))] at h2
  have := hend w' h1 h2 hW.1
  simp only [actOf, List.foldl_cons, List.foldl_nil, if_true, if_neg (Ne.symm n12)]
  exact this
end Dag
end Go.Proofs.YtipaobpmojahaaaGreat
