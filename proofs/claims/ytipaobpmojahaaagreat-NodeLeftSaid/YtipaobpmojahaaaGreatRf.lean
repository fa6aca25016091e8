/-
  recv.Recv: Gap · A receiver of the law's own · The document's receiver, with numbers that go on for ever, and what it is to the program's. Plain: no program is named but the receiver's plain form.
-/
import Derived.Test.YtipaobpmojahaaaGreatRcvA
import Derived.Test.YtipaobpmojahaaaGreatEvD
import Derived.Lib.SliceRun
import Derived.RegionTactic
import Derived.ChangeAlike
import Derived.Deep.RegionLaw
import Derived.Test.YtipaobpmojahaaaGreatGapS
import Derived.Test.YtipaobpmojahaaaGreatSpanE
import Derived.Deep.DeepCutAuto
import Derived.Deep.CutBlock
import Derived.Deep.RegionHeld3
import Derived.Test.YtipaobpmojahaaaGreatRef13b
import Derived.Test.YtipaobpmojahaaaGreatRows
import Derived.Test.YtipaobpmojahaaaGreatRow2
namespace Go.Proofs.YtipaobpmojahaaaGreat
open Go.RowKit

theorem results_tmp4r {fn : Func} {t u v x : Tmp} (h : fn.results = #[.tmp t, .tmp u, .tmp v, .tmp x]) (tmps : Array Value) (P : Program) (w : World) :
  (results fn tmps).run P w = .ok (.tuple #[tmps.getD t undef, tmps.getD u undef, tmps.getD v undef, tmps.getD x undef]) w := by
 simp [results, h]

structure OwnRecv (B w : World) (p : Nat) (F : Nat -> Prop) (st : Rv.S) : Prop where
 at_ : RecvAt w p F st
 fresh : Fresh B w
 base : ∀ x, F x -> B.heap.size <= x

def OutR (B w : World) (p : Nat) (F : Nat -> Prop) (st : Rv.S) (L : List ByteArray) (e : Ending) (w' : World) : Prop :=
 ∃ F' A' c', e = .returned (.slice A' L.length c') ∧ Sl strE w' A' c' L ∧ OwnRecv B w' p F' st ∧ Touch F w w' ∧ (∀ x, F' x -> F x ∨ w.heap.size <= x) ∧ ∀ ad, A' = some ad -> w.heap.size <= ad.block ∧ ¬ F' ad.block

namespace Rf
structure S where
 R : Int
 H : Int
 MR : Int
 window : Int
 buf : List (Int × ByteArray)
 inbox : List ByteArray
 gaps : List (Int × Int)

def new (start window : Int) : S := ⟨start % 16777216, start % 16777216, start % 16777216 + max 1 (min window 64), max 1 (min window 64), [], [], []⟩
def has (x : S) (n : Int) : Bool := decide (n ∈ x.buf.map (·.1))
def dl : Nat -> Int -> List (Int × ByteArray) -> List ByteArray -> Int × List (Int × ByteArray) × List ByteArray
 |0, r, m, out => (r, m, out)
 |k + 1, r, m, out => match mget m r with
  |some v => dl k (r + 1) (mdel m r) (out ++ [v])
  |none => (r, m, out)
def at_ (x : S) (number : Int) : Int := x.R + (number - x.R) % 16777216
def lay (x : S) (n : Int) (v : ByteArray) : S :=
 { x with buf := x.buf ++ [(n, v)], gaps := if n > x.H ∧ x.gaps.length < 8 then x.gaps ++ [(x.H, n)] else x.gaps, H := max x.H (n + 1) }
def deliver (x : S) : S × List ByteArray :=
 let d := dl x.buf.length x.R x.buf []
 ({ x with R := d.1, buf := d.2.1, inbox := x.inbox ++ d.2.2 }, d.2.2)
def takes (x : S) (n : Int) : Bool := decide (n < x.MR) && !has x n
def data (x : S) (number : Int) (v : ByteArray) : S × List ByteArray := if takes x (at_ x number) then deliver (lay x (at_ x number) v) else (x, [])
def pollOk (x : S) (number : Int) : Bool := decide (x.H <= at_ x number) && decide (at_ x number <= x.MR)
def poll (x : S) (number : Int) : S := if pollOk x number then { x with H := at_ x number } else x
def renew (x : S) : S := { x with MR := max x.MR (x.R + x.window - (x.inbox.length : Int)) }
def missing (x : S) : List Int := ((List.range (x.H - x.R).toNat).map fun i : Nat => x.R + (i : Int)).filter fun n => !has x n
def ftStep (g : Int × Int) (a : Int × Int) (n : Int) : Int × Int := if g.1 <= n ∧ n < g.2 ∧ (a.1 < 0 ∨ n = a.2) then (if a.1 < 0 then n else a.1, n + 1) else a
def ft (x : S) (g : Int × Int) : Int × Int := (missing x).foldl (ftStep g) (-1, -1)
def gapL (x : S) : List (Int × Int) -> S × Int × Int × Bool
 |[] => ({ x with gaps := [] }, 0, 0, false)
 |g :: rest => if 0 <= (ft x g).1 then (renew { x with gaps := rest }, (ft x g).1, (ft x g).2, true) else gapL x rest
def gap (x : S) : S × Int × Int × Bool := gapL x x.gaps

def pm (m : List (Int × ByteArray)) : List (Int × ByteArray) := m.map fun p => (p.1 % 16777216, p.2)
def pg (l : List (Int × Int)) : List (Int × Int) := l.map fun g => (g.1 % 16777216, g.2 % 16777216)
def prog (x : S) : Rv.S := ⟨x.R % 16777216, x.H % 16777216, x.MR % 16777216, x.window, pm x.buf, x.inbox, pg x.gaps⟩

structure Ok (x : S) (lo hi : Int) : Prop where
 lo0 : 0 <= lo ∧ lo < 16777216
 lor : lo <= x.R
 rhi : x.R <= hi
 hl : hi - lo <= 8000000
 rh : x.R <= x.H
 hm : x.H <= x.MR
 sum : x.MR - x.R + (x.inbox.length : Int) <= x.window
 win : 1 <= x.window ∧ x.window <= 64
 nod : (x.buf.map (·.1)).Nodup
 keys : ∀ p ∈ x.buf, x.R < p.1 ∧ p.1 < x.H
 glen : x.gaps.length <= 8
 gaps : ∀ g ∈ x.gaps, lo <= g.1 ∧ g.1 < g.2 ∧ g.2 <= x.H ∧ g.2 - g.1 <= 64

theorem Ok.new (start window : Int) (hi : Int) (h1 : start % 16777216 <= hi) (h2 : hi - start % 16777216 <= 8000000) : Ok (new start window) (start % 16777216) hi where
 lo0 := by omega
 lor := Int.le_refl _
 rhi := h1
 hl := h2
 rh := Int.le_refl _
 hm := by show start % 16777216 <= start % 16777216 + max 1 (min window 64); omega
 sum := by show start % 16777216 + max 1 (min window 64) - start % 16777216 + (([] : List ByteArray).length : Int) <= max 1 (min window 64); simp; omega
 win := by show 1 <= max 1 (min window 64) ∧ max 1 (min window 64) <= 64; omega
 nod := List.nodup_nil
 keys := fun p hp => by cases hp
 glen := by show ([] : List (Int × Int)).length <= 8; simp
 gaps := fun p hp => by cases hp
theorem Ok.mono {x : S} {lo hi hi' : Int} (h : Ok x lo hi) (h1 : hi <= hi') (h2 : hi' - lo <= 8000000) : Ok x lo hi' := ⟨h.lo0, h.lor, Int.le_trans h.rhi h1, h2, h.rh, h.hm, h.sum, h.win, h.nod, h.keys, h.glen, h.gaps⟩
theorem prog_new (start window : Int) : Rv.new start window = prog (new start window) := by
 unfold Rv.new prog new pm pg
 simp

section
variable {x : S} {lo hi : Int}
theorem Ok.renew (h : Ok x lo hi) : Rv.renew (prog x) = prog (Rf.renew x) ∧ Ok (Rf.renew x) lo hi := by
 have h2 := h.hm
 have h3 := h.sum
 have h4 := h.win
 have h5 := h.rh
 refine ⟨?_, h.lo0, h.lor, h.rhi, h.hl, h.rh, ?_, ?_, h.win, h.nod, h.keys, h.glen, h.gaps⟩
 ·unfold Rv.renew Rf.renew
  rw [show (prog x).mr = x.MR % 16777216 from rfl, show (prog x).r = x.R % 16777216 from rfl, show (prog x).window = x.window from rfl, show (prog x).inbox = x.inbox from rfl]
  show Rv.S.mk _ _ _ _ _ _ _ = Rv.S.mk _ _ _ _ _ _ _
  congr 1
  show _ = (max x.MR (x.R + x.window - (x.inbox.length : Int))) % 16777216
  split <;> omega
 ·unfold Rf.renew; simp only; omega
 ·unfold Rf.renew; simp only; omega
theorem Ok.take (h : Ok x lo hi) (j : Nat) : Ok { x with inbox := x.inbox.drop j } lo hi :=
 ⟨h.lo0, h.lor, h.rhi, h.hl, h.rh, h.hm, by have := h.sum; simp only [List.length_drop]; omega, h.win, h.nod, h.keys, h.glen, h.gaps⟩
theorem Ok.gapless (h : Ok x lo hi) (gs : List (Int × Int)) (hs : ∀ g ∈ gs, g ∈ x.gaps) (hl : gs.length <= 8) : Ok { x with gaps := gs } lo hi :=
 ⟨h.lo0, h.lor, h.rhi, h.hl, h.rh, h.hm, h.sum, h.win, h.nod, h.keys, hl, fun g hg => h.gaps g (hs g hg)⟩

theorem filter_one (c : Int) : ∀ (l : List Int), l.Nodup -> l.length <= (l.filter fun n => decide (n ≠ c)).length + 1
 |[], _ => by simp
 |n :: l, h => by
  obtain ⟨h1, h2⟩ := List.nodup_cons.1 h
  by_cases e : n = c
  ·subst e
   have : l.filter (fun m => decide (m ≠ n)) = l := List.filter_eq_self.2 fun m hm => by
    simp only [ne_eq, decide_eq_true_eq]
    intro e
    subst e
    exact h1 hm
   rw [List.filter_cons, if_neg (by simp), this]
   simp
  ·have := filter_one c l h2
   simp only [List.filter_cons, ne_eq, e, not_false_eq_true, decide_true, if_true, List.length_cons]
   simp only [ne_eq] at this
   omega
theorem nodup_len (a : Int) : ∀ (k : Nat) (l : List Int), l.Nodup -> (∀ n ∈ l, a <= n ∧ n < a + k) -> l.length <= k
 |0, l, _, hb => by
  cases l with
  |nil => simp
  |cons n l =>
   have := hb n (by simp)
   omega
 |k + 1, l, h, hb => by
  have h1 := filter_one (a + k) l h
  have h2 := nodup_len a k (l.filter fun n => decide (n ≠ a + k)) (h.filter _) (fun n hn => by
   obtain ⟨h3, h4⟩ := List.mem_filter.1 hn
   have := hb n h3
   have h5 : n ≠ a + k := by simpa using h4
   omega)
  omega
end
end Rf

namespace Rf
end Rf

namespace Rf
end Rf
end Go.Proofs.YtipaobpmojahaaaGreat
