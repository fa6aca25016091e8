/-
  Messages of Unit and Manage go out in their order, plain. No program is named.
-/
import Derived.Test.YtipaobpmojahaaaGreatOpY
import Derived.Test.YtipaobpmojahaaaGreatEnR
import Derived.Test.YtipaobpmojahaaaGreatEvD
import Derived.BigRegion
import Derived.Test.YtipaobpmojahaaaGreatEnZk
import Derived.Test.YtipaobpmojahaaaGreatEnNc
namespace Go.Proofs.YtipaobpmojahaaaGreat
open Go.RowKit
namespace Un
open En (X Fit)
structure U (lo : Int) (x : X) (us : List Cn.Pd) : Prop where
 st : x.c.start % 16777216 = lo
 un : x.units = us
 ul : (us.length : Int) <= x.c.units
 cu : 1 <= x.c.units ∧ x.c.units <= 64
 ct : x.ctl = []
 sf : x.stat = false
 pf : x.poll = false
 lk : x.lacks = false
 lf : x.left = []
 fit : Fit x lo lo
 cs : x.conn.state = 1 ∨ x.conn.state = 10
 ep : x.ep = none ∨ ∃ s r, x.ep = some (s, r) ∧ s.wait = [] ∧ s.kept = [] ∧ s.again = [] ∧ s.last = [] ∧ s.units = 0 ∧ 1 <= s.polls ∧ r.gaps = []
theorem U.lack {lo : Int} {x : X} {us : List Cn.Pd} (h : U lo x us) : En.lack x = false := by
 unfold En.lack
 rcases h.ep with e | ⟨s, r, e, hw, -⟩
 ·rw [e]
 ·rw [e]
  show (decide (0 < s.wait.length) && (s.s == s.ms)) = false
  rw [hw]
  rfl
theorem U.credit {lo : Int} {x : X} {us : List Cn.Pd} (h : U lo x us) (l : List Cn.Sig) : En.credit x l = (x, l) := by
 unfold En.credit
 rw [h.lack, h.lk]
 have := h.lk
 cases x
 dsimp only at this ⊢
 subst this
 rfl
theorem U.put {lo : Int} {x : X} {us : List Cn.Pd} (h : U lo x us) (u : Cn.Pd) (hl : (us.length : Int) < x.c.units) : U lo { x with units := x.units ++ [u] } (us ++ [u]) :=
 ⟨h.st, by rw [h.un], by simp only [List.length_append, List.length_singleton]; show ((us.length + 1 : Nat) : Int) <= x.c.units; omega, h.cu, h.ct, h.sf, h.pf, h.lk, h.lf, ⟨h.fit.nd, h.fit.ks, h.fit.b1, h.fit.b2, h.fit.ep, h.fit.st⟩, h.cs, h.ep⟩
theorem may8 {s k : Int} (h : s = 1 ∨ s = 10) (hk : k = 8 ∨ k = 9) : Ru.may s k = true := by
 rcases h with rfl | rfl <;> rcases hk with rfl | rfl <;> decide +kernel
theorem err8 {k : Int} (hk : k = 8 ∨ k = 9) {d : ByteArray} (hd : d.size <= 9) : Ev.err k d 0 = 0 := by
 have hm : Ev.most k = 200 := by rcases hk with rfl | rfl <;> rfl
 unfold Ev.err
 rw [hm, if_neg (by omega), if_neg (by omega), if_neg (by omega)]
theorem U.ask {lo : Int} {x : X} {us : List Cn.Pd} (h : U lo x us) (b : Bool) {d : ByteArray} (hd : d.size <= 9) :
  En.request x (if b then 9 else 8) d 0 = if (us.length : Int) < x.c.units then ({ x with units := x.units ++ [En.umsg (if b then 14 else 13) d] }, [], 0) else (x, [], 7) := by
 have hk : (if b then (9 : Int) else 8) = 8 ∨ (if b then (9 : Int) else 8) = 9 := by cases b <;> simp
 have e0 : En.ask x (if b then 9 else 8) d 0 = En.putU x (En.umsg (if b then 14 else 13) d) := by cases b <;> rfl
 unfold En.request
 rw [if_pos (err8 hk hd), if_pos (may8 h.cs hk), e0]
 unfold En.putU
 rw [h.un]
 by_cases hl : (us.length : Int) < x.c.units
 ·rw [if_pos hl]
  dsimp only
  rw [if_pos rfl]
  have := (h.put (En.umsg (if b then 14 else 13) d) hl).credit []
  rw [h.un] at this
  rw [this]
 ·rw [if_neg hl]
  rfl
theorem U.hear {lo : Int} {x : X} {us : List Cn.Pd} (h : U lo x us) (b : Bool) (d : ByteArray) : En.receive x (En.umsg (if b then 14 else 13) d) [] = (x, [En.msg (if b then 10 else 9) d]) := by
 have e0 : En.hear x (En.umsg (if b then 14 else 13) d) [] = (x, [En.msg (if b then 10 else 9) d]) := by cases b <;> rfl
 unfold En.receive
 rw [e0]
 exact h.credit _
theorem U.next {lo : Int} {x : X} {u : Cn.Pd} {us : List Cn.Pd} (h : U lo x (u :: us)) : En.next x = ({ x with units := us }, some (u, [])) ∧ U lo { x with units := us } us := by
 refine ⟨?_, h.st, rfl, ?_, h.cu, h.ct, h.sf, h.pf, h.lk, h.lf, ⟨h.fit.nd, h.fit.ks, h.fit.b1, h.fit.b2, h.fit.ep, h.fit.st⟩, h.cs, h.ep⟩
 ·unfold En.next
  rw [h.ct, h.un]
 ·have := h.ul
  simp only [List.length_cons] at this
  show (us.length : Int) <= x.c.units
  omega
theorem U.none_ {lo : Int} {x : X} (h : U lo x []) : (En.next x).2 = none ∧ U lo (En.next x).1 [] := by
 rcases h.ep with e | ⟨s, r, e, hw, hk, ha, hl, hu, hp, hg⟩
 ·have e0 : En.next x = (x, none) := by unfold En.next; rw [h.ct, h.un, e]
  rw [e0]
  exact ⟨rfl, h⟩
 ·have e0 : En.next x = (x, none) := Ope.next_calm h.ct h.un h.sf h.pf e hg hw ha (by omega)
  rw [e0]
  exact ⟨rfl, h⟩
theorem U.calm {lo : Int} {x : X} {us : List Cn.Pd} (h : U lo x us) {s : Sf.S} {r : Rf.S} (e : x.ep = some (s, r)) : x.stat = false ∧ r.gaps = [] ∧ ∀ p F W, SendAt W p F (Sf.prog s) -> Calls Tryz.prog 43 #[.pointer (some ⟨p, 0, none⟩)] W (SNext W p F s) := by
 rcases h.ep with e2 | ⟨s', r', e2, hw, hk, ha, hl, hu, hp, hg⟩
 ·rw [e2] at e; cases e
 ·rw [e2] at e
  injection e with e
  injection e with g1 g2
  subst g1 g2
  exact ⟨h.sf, hg, snext_calm hw ha⟩
theorem U.new {c : Nd.C} (hc : 1 <= c.units ∧ c.units <= 64) : U (c.start % 16777216) (En.new c) [] :=
 ⟨rfl, rfl, by show ((0 : Nat) : Int) <= c.units; omega, hc, rfl, rfl, rfl, rfl, rfl, Ope.fit_new, .inl rfl, .inl rfl⟩
theorem U.opened {c : Nd.C} (hc : 1 <= c.units ∧ c.units <= 64) (n : Int) : U (c.start % 16777216) (Ope.x3 c n) [] := by
 obtain ⟨h1, h2, h3, h4, h5, h6, h7⟩ := Ope.opn_wait (Sf.new c.start c.queue c.polls) n
 exact ⟨rfl, rfl, by show ((0 : Nat) : Int) <= c.units; omega, hc, rfl, rfl, rfl, rfl, rfl, Ope.fit3 n, .inr rfl, .inr ⟨_, _, rfl, h1, h2, h3, h7, h4, by show 1 <= (Sf.opn _ _).polls; rw [h5]; show 1 <= max 1 (min c.polls 256); omega, rfl⟩⟩
end Un
end Go.Proofs.YtipaobpmojahaaaGreat
