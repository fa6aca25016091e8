/-
  A receiver of the law's own · The document's receiver, with numbers that go on for ever, and what it is to the program's. Plain: no program is named but the receiver's plain form.
-/
import Derived.Test.YtnenaemincfgpaaGreatRcvI
import Derived.Test.YtnenaemincfgpaaGreatRcvF
import Derived.Test.YtnenaemincfgpaaGreatRef13
import Derived.Test.YtnenaemincfgpaaGreatRows
import Derived.Test.YtnenaemincfgpaaGreatEvD
import Derived.Test.YtnenaemincfgpaaGreatCnP
namespace Go.Proofs.YtnenaemincfgpaaGreat
open Go.RowKit

structure OwnRecv (B w : World) (p : Nat) (F : Nat -> Prop) (st : Rv.S) : Prop where
 at_ : RecvAt w p F st
 fresh : Fresh B w
 base : ∀ x, F x -> B.heap.size <= x

def OutR (B w : World) (p : Nat) (F : Nat -> Prop) (st : Rv.S) (L : List ByteArray) (e : Ending) (w' : World) : Prop :=
 ∃ F' A' c', e = .returned (.slice A' L.length c') ∧ Sl strE w' A' c' L ∧ OwnRecv B w' p F' st ∧ Touch F w w' ∧ (∀ x, F' x -> F x ∨ w.heap.size <= x) ∧ ∀ ad, A' = some ad -> w.heap.size <= ad.block ∧ ¬ F' ad.block

namespace Rf
structure S where
 R : Int
 H : Int
 MR : Int
 window : Int
 buf : List (Int × ByteArray)
 inbox : List ByteArray
 gaps : List (Int × Int)

def new (start window : Int) : S := ⟨start % 16777216, start % 16777216, start % 16777216 + max 1 (min window 64), max 1 (min window 64), [], [], []⟩
def has (x : S) (n : Int) : Bool := decide (n ∈ x.buf.map (·.1))
def dl : Nat -> Int -> List (Int × ByteArray) -> List ByteArray -> Int × List (Int × ByteArray) × List ByteArray
 |0, r, m, out => (r, m, out)
 |k + 1, r, m, out => match mget m r with
  |some v => dl k (r + 1) (mdel m r) (out ++ [v])
  |none => (r, m, out)
def at_ (x : S) (number : Int) : Int := x.R + (number - x.R) % 16777216
def lay (x : S) (n : Int) (v : ByteArray) : S :=
 { x with buf := x.buf ++ [(n, v)], gaps := if n > x.H ∧ x.gaps.length < 8 then x.gaps ++ [(x.H, n)] else x.gaps, H := max x.H (n + 1) }
def deliver (x : S) : S × List ByteArray :=
 let d := dl x.buf.length x.R x.buf []
 ({ x with R := d.1, buf := d.2.1, inbox := x.inbox ++ d.2.2 }, d.2.2)
def takes (x : S) (n : Int) : Bool := decide (n < x.MR) && !has x n
def data (x : S) (number : Int) (v : ByteArray) : S × List ByteArray := if takes x (at_ x number) then deliver (lay x (at_ x number) v) else (x, [])
def pollOk (x : S) (number : Int) : Bool := decide (x.H <= at_ x number) && decide (at_ x number <= x.MR)
def poll (x : S) (number : Int) : S := if pollOk x number then { x with H := at_ x number } else x
def renew (x : S) : S := { x with MR := max x.MR (x.R + x.window - (x.inbox.length : Int)) }
def missing (x : S) : List Int := ((List.range (x.H - x.R).toNat).map fun i : Nat => x.R + (i : Int)).filter fun n => !has x n
def ftStep (g : Int × Int) (a : Int × Int) (n : Int) : Int × Int := if g.1 <= n ∧ n < g.2 ∧ (a.1 < 0 ∨ n = a.2) then (if a.1 < 0 then n else a.1, n + 1) else a
def ft (x : S) (g : Int × Int) : Int × Int := (missing x).foldl (ftStep g) (-1, -1)
def gapL (x : S) : List (Int × Int) -> S × Int × Int × Bool
 |[] => ({ x with gaps := [] }, 0, 0, false)
 |g :: rest => if 0 <= (ft x g).1 then (renew { x with gaps := rest }, (ft x g).1, (ft x g).2, true) else gapL x rest
def gap (x : S) : S × Int × Int × Bool := gapL x x.gaps

def pm (m : List (Int × ByteArray)) : List (Int × ByteArray) := m.map fun p => (p.1 % 16777216, p.2)
def pg (l : List (Int × Int)) : List (Int × Int) := l.map fun g => (g.1 % 16777216, g.2 % 16777216)
def prog (x : S) : Rv.S := ⟨x.R % 16777216, x.H % 16777216, x.MR % 16777216, x.window, pm x.buf, x.inbox, pg x.gaps⟩

structure Ok (x : S) (lo hi : Int) : Prop where
 lo0 : 0 <= lo ∧ lo < 16777216
 lor : lo <= x.R
 rhi : x.R <= hi
 hl : hi - lo <= 8000000
 rh : x.R <= x.H
 hm : x.H <= x.MR
 sum : x.MR - x.R + (x.inbox.length : Int) <= x.window
 win : 1 <= x.window ∧ x.window <= 64
 nod : (x.buf.map (·.1)).Nodup
 keys : ∀ p ∈ x.buf, x.R < p.1 ∧ p.1 < x.H
 glen : x.gaps.length <= 8
 gaps : ∀ g ∈ x.gaps, lo <= g.1 ∧ g.1 < g.2 ∧ g.2 <= x.H ∧ g.2 - g.1 <= 64

theorem Ok.new (start window : Int) (hi : Int) (h1 : start % 16777216 <= hi) (h2 : hi - start % 16777216 <= 8000000) : Ok (new start window) (start % 16777216) hi where
 lo0 := by omega
 lor := Int.le_refl _
 rhi := h1
 hl := h2
 rh := Int.le_refl _
 hm := by show start % 16777216 <= start % 16777216 + max 1 (min window 64); omega
 sum := by show start % 16777216 + max 1 (min window 64) - start % 16777216 + (([] : List ByteArray).length : Int) <= max 1 (min window 64); simp; omega
 win := by show 1 <= max 1 (min window 64) ∧ max 1 (min window 64) <= 64; omega
 nod := List.nodup_nil
 keys := fun p hp => by cases hp
 glen := by show ([] : List (Int × Int)).length <= 8; simp
 gaps := fun p hp => by cases hp
theorem Ok.mono {x : S} {lo hi hi' : Int} (h : Ok x lo hi) (h1 : hi <= hi') (h2 : hi' - lo <= 8000000) : Ok x lo hi' := ⟨h.lo0, h.lor, Int.le_trans h.rhi h1, h2, h.rh, h.hm, h.sum, h.win, h.nod, h.keys, h.glen, h.gaps⟩
theorem prog_new (start window : Int) : Rv.new start window = prog (new start window) := by
 unfold Rv.new prog new pm pg
 simp

theorem mget_pm {a : Int} : ∀ (m : List (Int × ByteArray)) (n : Int), (∀ p ∈ m, a <= p.1 ∧ p.1 <= a + 64) -> a <= n -> n <= a + 64 -> mget (pm m) (n % 16777216) = mget m n
 |[], n, _, _, _ => rfl
 |p :: m, n, h, h1, h2 => by
  have hp := h p (by simp)
  have e : pm (p :: m) = (p.1 % 16777216, p.2) :: pm m := rfl
  rw [e, mget_cons, mget_cons, mget_pm m n (fun q hq => h q (by simp [hq])) h1 h2]
  by_cases hn : p.1 = n
  ·rw [if_pos hn, if_pos (by rw [hn])]
  ·rw [if_neg hn, if_neg (by simp only; omega)]
theorem mdel_pm {a : Int} : ∀ (m : List (Int × ByteArray)) (n : Int), (∀ p ∈ m, a <= p.1 ∧ p.1 <= a + 64) -> a <= n -> n <= a + 64 -> mdel (pm m) (n % 16777216) = pm (mdel m n)
 |[], n, _, _, _ => rfl
 |p :: m, n, h, h1, h2 => by
  have hp := h p (by simp)
  have ih := mdel_pm m n (fun q hq => h q (by simp [hq])) h1 h2
  have e : pm (p :: m) = (p.1 % 16777216, p.2) :: pm m := rfl
  rw [e]
  unfold mdel at ih ⊢
  rw [List.filter_cons, List.filter_cons]
  by_cases hn : p.1 = n
  ·have h3 : p.1 % 16777216 = n % 16777216 := by rw [hn]
   simp only [ne_eq, not_true_eq_false, decide_false, Bool.false_eq_true, if_false, hn]
   exact ih
  ·have h3 : ¬ p.1 % 16777216 = n % 16777216 := by omega
   simp only [ne_eq, h3, not_false_eq_true, decide_true, if_true, hn]
   rw [ih]
   rfl
theorem mdel_sub (m : List (Int × ByteArray)) (n : Int) : ∀ p ∈ mdel m n, p ∈ m ∧ p.1 ≠ n := fun p hp => by
 have := List.mem_filter.1 hp
 exact ⟨this.1, by simpa using this.2⟩
theorem mget_mem {m : List (Int × ByteArray)} {n : Int} {v : ByteArray} (h : mget m n = some v) : ∃ p ∈ m, p.1 = n := by
 have : n ∈ m.map (·.1) := Decidable.byContradiction fun hc => by rw [mget_none.2 hc] at h; cases h
 obtain ⟨p, hp, e⟩ := List.mem_map.1 this
 exact ⟨p, hp, e⟩

theorem dl_pm {a : Int} : ∀ (k : Nat) (r : Int) (m : List (Int × ByteArray)) (out : List ByteArray), (∀ p ∈ m, a <= p.1 ∧ p.1 < a + 64) -> a <= r -> r <= a + 64 →
  Rv.dl k (r % 16777216) (pm m) out = ((dl k r m out).1 % 16777216, pm (dl k r m out).2.1, (dl k r m out).2.2)
 |0, r, m, out, _, _, _ => rfl
 |k + 1, r, m, out, h, h1, h2 => by
  have hh : ∀ p ∈ m, a <= p.1 ∧ p.1 <= a + 64 := fun p hp => by have := h p hp; omega
  unfold Rv.dl dl
  rw [mget_pm m r hh h1 h2]
  cases hg : mget m r with
  |none => rfl
  |some v =>
   simp only
   obtain ⟨p, hp, e⟩ := mget_mem hg
   have := h p hp
   rw [mdel_pm m r hh h1 h2, show (r % 16777216 + 1) % 16777216 = (r + 1) % 16777216 by omega]
   exact dl_pm k (r + 1) (mdel m r) (out ++ [v]) (fun q hq => h q (mdel_sub m r q hq).1) (by omega) (by omega)
theorem dl_ok {H : Int} : ∀ (k : Nat) (r : Int) (m : List (Int × ByteArray)) (out : List ByteArray), m.length <= k -> (m.map (·.1)).Nodup -> (∀ p ∈ m, r <= p.1 ∧ p.1 < H) -> r <= H →
  r <= (dl k r m out).1 ∧ (dl k r m out).1 <= H ∧ ((dl k r m out).2.2.length : Int) = out.length + ((dl k r m out).1 - r) ∧ ((dl k r m out).2.1.map (·.1)).Nodup ∧ ∀ p ∈ (dl k r m out).2.1, (dl k r m out).1 < p.1 ∧ p.1 < H
 |0, r, m, out, hl, hn, hk, hr => by
  obtain rfl : m = [] := List.eq_nil_of_length_eq_zero (by omega)
  exact ⟨Int.le_refl _, hr, by simp [dl], by simp [dl], fun p hp => by cases hp⟩
 |k + 1, r, m, out, hl, hn, hk, hr => by
  unfold dl
  cases hg : mget m r with
  |none =>
   refine ⟨Int.le_refl _, hr, by simp, hn, fun p hp => ?_⟩
   have h1 := hk p hp
   have h2 : p.1 ≠ r := fun e => mget_none.1 hg (List.mem_map.2 ⟨p, hp, e⟩)
   simp only
   omega
  |some v =>
   simp only
   obtain ⟨p, hp, e⟩ := mget_mem hg
   have h1 := hk p hp
   have h2 := mdel_len m r hn hg
   obtain ⟨i1, i2, i3, i4, i5⟩ := dl_ok (H := H) k (r + 1) (mdel m r) (out ++ [v]) (by omega) (nodup_mdel hn r) (fun q hq => by
    have h3 := mdel_sub m r q hq
    have h4 := hk q h3.1
    have h5 := h3.2
    omega) (by omega)
   refine ⟨by omega, i2, ?_, i4, i5⟩
   rw [i3]
   simp
   omega

section
variable {x : S} {lo hi : Int}
theorem Ok.near (h : Ok x lo hi) : ∀ p ∈ x.buf, x.R <= p.1 ∧ p.1 <= x.R + 64 := fun p hp => by
 have h1 := h.keys p hp
 have h2 := h.hm
 have h3 := h.sum
 have h4 := h.win
 omega
theorem Ok.has (h : Ok x lo hi) {n : Int} (h1 : x.R <= n) (h2 : n <= x.R + 64) : (mget (pm x.buf) (n % 16777216) = none) ↔ Rf.has x n = false := by
 rw [mget_pm x.buf n h.near h1 h2, mget_none]
 unfold Rf.has
 simp
theorem Ok.at_bd (_h : Ok x lo hi) (number : Int) : x.R <= at_ x number ∧ at_ x number < x.R + 16777216 ∧ at_ x number % 16777216 = number % 16777216 := by
 unfold at_
 refine ⟨?_, ?_, ?_⟩ <;> omega
theorem Ok.takes (h : Ok x lo hi) (number : Int) : Rv.takes (prog x) (number % 16777216) = Rf.takes x (at_ x number) := by
 obtain ⟨b1, b2, b3⟩ := h.at_bd number
 have h2 := h.hm
 have h3 := h.sum
 have h4 := h.win
 have h5 := h.rh
 rw [<- b3]
 generalize at_ x number = n at *
 unfold Rv.takes Rf.takes
 rw [show (prog x).m = pm x.buf from rfl, show (prog x).r = x.R % 16777216 from rfl, show (prog x).mr = x.MR % 16777216 from rfl]
 by_cases hn : n < x.MR
 ·rw [decide_eq_true hn, decide_eq_true (show (n % 16777216 - x.R % 16777216) % 16777216 < (x.MR % 16777216 - x.R % 16777216) % 16777216 by omega), Bool.and_true, Bool.true_and]
  have := h.has b1 (show n <= x.R + 64 by omega)
  cases hh : Rf.has x n
  ·simpa using this.2 hh
  ·have : ¬ mget (pm x.buf) (n % 16777216) = none := fun e => by rw [this.1 e] at hh; cases hh
   simpa using this
 ·rw [decide_eq_false hn, decide_eq_false (show ¬ (n % 16777216 - x.R % 16777216) % 16777216 < (x.MR % 16777216 - x.R % 16777216) % 16777216 by omega)]
  simp
theorem Ok.lay (h : Ok x lo hi) {n : Int} (v : ByteArray) (h1 : x.R <= n) (ht : Rf.takes x n = true) : Rv.lay (prog x) (n % 16777216) v = prog (Rf.lay x n v) := by
 have h2 := h.hm
 have h3 := h.sum
 have h4 := h.win
 have h5 := h.rh
 unfold Rf.takes at ht
 simp only [Bool.and_eq_true, decide_eq_true_eq, Bool.not_eq_true'] at ht
 obtain ⟨t1, t2⟩ := ht
 have hg := (h.has h1 (show n <= x.R + 64 by omega)).2 t2
 have hs : mset (pm x.buf) (n % 16777216) v = pm (x.buf ++ [(n, v)]) := by
  unfold mset
  rw [if_neg (mget_none.1 hg)]
  simp [pm]
 unfold Rv.lay Rf.lay
 rw [show (prog x).m = pm x.buf from rfl, show (prog x).r = x.R % 16777216 from rfl, show (prog x).h = x.H % 16777216 from rfl, show (prog x).gaps = pg x.gaps from rfl, hs]
 by_cases hn : n < x.H
 ·rw [if_pos (by omega), if_neg (by omega), show max x.H (n + 1) = x.H by omega]
  rfl
 ·rw [if_neg (by omega), show max x.H (n + 1) = n + 1 by omega, show (n % 16777216 + 1) % 16777216 = (n + 1) % 16777216 by omega]
  show Rv.S.mk _ _ _ _ _ _ _ = Rv.S.mk _ _ _ _ _ _ _
  congr 1
  by_cases hc : n > x.H ∧ x.gaps.length < 8
  ·rw [if_pos hc, if_pos ⟨by omega, by simpa [pg] using hc.2⟩]
   simp [pg]
  ·rw [if_neg hc, if_neg (by
    rintro ⟨c1, c2⟩
    rw [show (pg x.gaps).length = x.gaps.length by simp [pg]] at c2
    exact hc ⟨by omega, c2⟩)]
theorem Ok.laid (h : Ok x lo hi) {n : Int} (v : ByteArray) (h1 : x.R <= n) (ht : Rf.takes x n = true) :
  ((Rf.lay x n v).buf.map (·.1)).Nodup ∧ (∀ p ∈ (Rf.lay x n v).buf, x.R <= p.1 ∧ p.1 < (Rf.lay x n v).H) ∧ x.R <= (Rf.lay x n v).H ∧ (Rf.lay x n v).H <= x.MR ∧ (Rf.lay x n v).gaps.length <= 8 ∧
  (∀ g ∈ (Rf.lay x n v).gaps, lo <= g.1 ∧ g.1 < g.2 ∧ g.2 <= (Rf.lay x n v).H ∧ g.2 - g.1 <= 64) := by
 have h2 := h.hm
 have h3 := h.sum
 have h4 := h.win
 have h5 := h.rh
 have h6 := h.lor
 unfold Rf.takes at ht
 simp only [Bool.and_eq_true, decide_eq_true_eq, Bool.not_eq_true'] at ht
 obtain ⟨t1, t2⟩ := ht
 have t3 : n ∉ x.buf.map (·.1) := by simpa [Rf.has] using t2
 unfold Rf.lay
 refine ⟨?_, fun p hp => ?_, by simp only; omega, by simp only; omega, ?_, fun g hg => ?_⟩
 ·rw [List.map_append]
  exact List.nodup_append.2 ⟨h.nod, by simp, fun a ha b hb e => by
   have hb' : b = n := by simpa using hb
   subst hb' e
   exact t3 ha⟩
 ·rcases List.mem_append.1 hp with hp | hp
  ·have := h.keys p hp
   simp only
   omega
  ·have := List.mem_singleton.1 hp
   subst this
   simp only
   omega
 ·have := h.glen
  simp only
  split
  ·simp
   omega
  ·exact this
 ·simp only at hg ⊢
  split at hg
  ·rename_i hc
   rcases List.mem_append.1 hg with hg | hg
   ·have := h.gaps g hg
    omega
   ·have := List.mem_singleton.1 hg
    subst this
    simp only
    omega
  ·have := h.gaps g hg
   omega
theorem Ok.data (h : Ok x lo hi) (number : Int) (v : ByteArray) (hh : hi + 64 - lo <= 8000000) :
  Rv.data (prog x) (number % 16777216) v = (prog (Rf.data x number v).1, (Rf.data x number v).2) ∧ Ok (Rf.data x number v).1 lo (hi + 64) := by
 obtain ⟨b1, b2, b3⟩ := h.at_bd number
 have hm := h.hm
 have hsum := h.sum
 have hwin := h.win
 have hrh := h.rh
 have hlor := h.lor
 have hrhi := h.rhi
 unfold Rv.data Rf.data
 rw [show number % 16777216 % 16777216 = number % 16777216 by omega, h.takes number]
 by_cases ht : Rf.takes x (at_ x number) = true
 ·rw [if_pos ht, if_pos ht, <- b3, h.lay v b1 ht]
  obtain ⟨l1, l2, l3, l4, l5, l6⟩ := h.laid v b1 ht
  have hR : (Rf.lay x (at_ x number) v).R = x.R := rfl
  have hMR : (Rf.lay x (at_ x number) v).MR = x.MR := rfl
  have hW : (Rf.lay x (at_ x number) v).window = x.window := rfl
  have hI : (Rf.lay x (at_ x number) v).inbox = x.inbox := rfl
  generalize Rf.lay x (at_ x number) v = y at *
  have hd := dl_pm (a := x.R) y.buf.length x.R y.buf [] (fun p hp => by have := l2 p hp; omega) (Int.le_refl _) (by omega)
  obtain ⟨d1, d2, d3, d4, d5⟩ := dl_ok (H := y.H) y.buf.length x.R y.buf [] (Nat.le_refl _) l1 l2 l3
  have hlen : (pm y.buf).length = y.buf.length := by simp [pm]
  constructor
  ·unfold Rv.deliver Rf.deliver
   simp only [prog, hlen, hR, hI] at hd ⊢
   rw [hd]
  ·unfold Rf.deliver
   rw [hR]
   generalize dl y.buf.length x.R y.buf [] = d at *
   simp only [List.length_nil] at d3
   exact ⟨h.lo0, by simp only; omega, by simp only; omega, hh, d2, by simp only; omega, by simp only [hI, hW, hMR, List.length_append]; omega, by simp only [hW]; exact hwin, d4, d5, l5, l6⟩
 ·rw [if_neg ht, if_neg ht]
  exact ⟨rfl, h.mono (by omega) hh⟩

theorem Ok.pollOk (h : Ok x lo hi) (number : Int) :
  (decide (((prog x).h - (prog x).r) % 16777216 <= (number % 16777216 - (prog x).r) % 16777216) && decide ((number % 16777216 - (prog x).r) % 16777216 <= ((prog x).mr - (prog x).r) % 16777216)) = Rf.pollOk x number := by
 obtain ⟨b1, b2, b3⟩ := h.at_bd number
 have h2 := h.hm
 have h3 := h.sum
 have h4 := h.win
 have h5 := h.rh
 unfold Rf.pollOk
 rw [<- b3]
 generalize at_ x number = n at *
 simp only [prog]
 congr 1 <;> (apply decide_eq_decide.2; omega)
theorem Ok.poll (h : Ok x lo hi) (number : Int) : (if Rf.pollOk x number then { prog x with h := number % 16777216 } else prog x) = prog (Rf.poll x number) ∧ Ok (Rf.poll x number) lo hi := by
 obtain ⟨b1, b2, b3⟩ := h.at_bd number
 unfold Rf.poll
 by_cases hp : Rf.pollOk x number = true
 ·rw [if_pos hp, if_pos hp]
  unfold Rf.pollOk at hp
  simp only [Bool.and_eq_true, decide_eq_true_eq] at hp
  refine ⟨by rw [<- b3]; rfl, h.lo0, h.lor, h.rhi, h.hl, b1, hp.2, h.sum, h.win, h.nod, fun p hp2 => ?_, h.glen, fun g hg => ?_⟩
  ·have := h.keys p hp2
   simp only
   omega
  ·have := h.gaps g hg
   simp only
   omega
 ·rw [if_neg hp, if_neg hp]
  exact ⟨rfl, h⟩
theorem Ok.renew (h : Ok x lo hi) : Rv.renew (prog x) = prog (Rf.renew x) ∧ Ok (Rf.renew x) lo hi := by
 have h2 := h.hm
 have h3 := h.sum
 have h4 := h.win
 have h5 := h.rh
 refine ⟨?_, h.lo0, h.lor, h.rhi, h.hl, h.rh, ?_, ?_, h.win, h.nod, h.keys, h.glen, h.gaps⟩
 ·unfold Rv.renew Rf.renew
  rw [show (prog x).mr = x.MR % 16777216 from rfl, show (prog x).r = x.R % 16777216 from rfl, show (prog x).window = x.window from rfl, show (prog x).inbox = x.inbox from rfl]
  show Rv.S.mk _ _ _ _ _ _ _ = Rv.S.mk _ _ _ _ _ _ _
  congr 1
  show _ = (max x.MR (x.R + x.window - (x.inbox.length : Int))) % 16777216
  split <;> omega
 ·unfold Rf.renew; simp only; omega
 ·unfold Rf.renew; simp only; omega
theorem Ok.take (h : Ok x lo hi) (j : Nat) : Ok { x with inbox := x.inbox.drop j } lo hi :=
 ⟨h.lo0, h.lor, h.rhi, h.hl, h.rh, h.hm, by have := h.sum; simp only [List.length_drop]; omega, h.win, h.nod, h.keys, h.glen, h.gaps⟩
theorem Ok.gapless (h : Ok x lo hi) (gs : List (Int × Int)) (hs : ∀ g ∈ gs, g ∈ x.gaps) (hl : gs.length <= 8) : Ok { x with gaps := gs } lo hi :=
 ⟨h.lo0, h.lor, h.rhi, h.hl, h.rh, h.hm, h.sum, h.win, h.nod, h.keys, hl, fun g hg => h.gaps g (hs g hg)⟩

theorem filter_one (c : Int) : ∀ (l : List Int), l.Nodup -> l.length <= (l.filter fun n => decide (n ≠ c)).length + 1
 |[], _ => by simp
 |n :: l, h => by
  obtain ⟨h1, h2⟩ := List.nodup_cons.1 h
  by_cases e : n = c
  ·subst e
   have : l.filter (fun m => decide (m ≠ n)) = l := List.filter_eq_self.2 fun m hm => by
    simp only [ne_eq, decide_eq_true_eq]
    intro e
    subst e
    exact h1 hm
   rw [List.filter_cons, if_neg (by simp), this]
   simp
  ·have := filter_one c l h2
   simp only [List.filter_cons, ne_eq, e, not_false_eq_true, decide_true, if_true, List.length_cons]
   simp only [ne_eq] at this
   omega
theorem nodup_len (a : Int) : ∀ (k : Nat) (l : List Int), l.Nodup -> (∀ n ∈ l, a <= n ∧ n < a + k) -> l.length <= k
 |0, l, _, hb => by
  cases l with
  |nil => simp
  |cons n l =>
   have := hb n (by simp)
   omega
 |k + 1, l, h, hb => by
  have h1 := filter_one (a + k) l h
  have h2 := nodup_len a k (l.filter fun n => decide (n ≠ a + k)) (h.filter _) (fun n hn => by
   obtain ⟨h3, h4⟩ := List.mem_filter.1 hn
   have := hb n h3
   have h5 : n ≠ a + k := by simpa using h4
   omega)
  omega
theorem Ok.blen (h : Ok x lo hi) : x.buf.length <= 64 := by
 have h2 := h.hm
 have h3 := h.sum
 have h4 := h.win
 have := nodup_len x.R 64 (x.buf.map (·.1)) h.nod (fun n hn => by
  obtain ⟨p, hp, rfl⟩ := List.mem_map.1 hn
  have := h.keys p hp
  omega)
 simpa using this
theorem missing_rising (x : S) : Sp.Rising (missing x) := by
 unfold missing Sp.Rising
 refine List.Pairwise.filter _ ?_
 rw [List.pairwise_map]
 exact List.pairwise_lt_range.imp fun h => by omega
theorem mem_missing (x : S) (n : Int) : n ∈ missing x ↔ x.R <= n ∧ n < x.H ∧ Rf.has x n = false := by
 unfold missing
 rw [List.mem_filter, List.mem_map]
 constructor
 ·rintro ⟨⟨i, hi, rfl⟩, hn⟩
  have := List.mem_range.1 hi
  exact ⟨by omega, by omega, by simpa using hn⟩
 ·rintro ⟨h1, h2, h3⟩
  exact ⟨⟨(n - x.R).toNat, List.mem_range.2 (by omega), by omega⟩, by simpa using h3⟩
theorem Ok.come (h : Ok x lo hi) (n : Int) (h1 : 0 <= n) (h2 : n < x.H - x.R) : (∀ q ∈ (prog x).m, (q.1 - (prog x).r) % 16777216 ≠ n) ↔ Rf.has x (x.R + n) = false := by
 have h3 := h.hm
 have h4 := h.sum
 have h5 := h.win
 unfold Rf.has
 rw [decide_eq_false_iff_not]
 constructor
 ·intro hq hm
  obtain ⟨p, hp, e⟩ := List.mem_map.1 hm
  refine hq (p.1 % 16777216, p.2) (List.mem_map.2 ⟨p, hp, rfl⟩) ?_
  simp only [prog]
  omega
 ·intro hn q hq e
  obtain ⟨p, hp, rfl⟩ := List.mem_map.1 hq
  refine hn (List.mem_map.2 ⟨p, hp, ?_⟩)
  have := h.near p hp
  simp only [prog] at e
  omega
theorem Ok.dist (h : Ok x lo hi) : ((prog x).h - (prog x).r) % 16777216 = x.H - x.R := by
 have h2 := h.hm
 have h3 := h.sum
 have h4 := h.win
 have h5 := h.rh
 simp only [prog]
 omega
theorem Ok.miss (h : Ok x lo hi) {T : List (Int × Int)} (hm : Rv.Miss (prog x) T) : missing x = (Sp.nums T).map (x.R + ·) := by
 refine Sp.Rising.uniq (missing_rising x) ?_ fun n => ?_
 ·unfold Sp.Rising
  rw [List.pairwise_map]
  exact (Sp.nums_rising T hm.1.1).imp fun h => by omega
 ·rw [mem_missing, List.mem_map]
  constructor
  ·rintro ⟨h1, h2, h3⟩
   refine ⟨n - x.R, (Sp.mem_nums _ _).2 ((hm.2 _).2 ⟨by omega, by rw [h.dist]; omega, (h.come _ (by omega) (by omega)).2 (by rw [show x.R + (n - x.R) = n by omega]; exact h3)⟩), by omega⟩
  ·rintro ⟨k, hk, rfl⟩
   obtain ⟨k1, k2, k3⟩ := (hm.2 _).1 ((Sp.mem_nums _ _).1 hk)
   rw [h.dist] at k2
   exact ⟨by omega, by omega, (h.come k k1 k2).1 k3⟩
theorem Ok.still (h : Ok x lo hi) {g : Int × Int} (hg : lo <= g.1 ∧ g.1 < g.2 ∧ g.2 <= x.H ∧ g.2 - g.1 <= 64) (n : Int) : Rv.StillIn (prog x) (g.1 % 16777216, g.2 % 16777216) n ↔ (0 <= n ∧ x.R + n ∈ missing x) ∧ g.1 <= x.R + n ∧ x.R + n < g.2 := by
 have h1 := h.lor
 have h2 := h.hm
 have h3 := h.sum
 have h4 := h.win
 have h5 := h.rh
 have h6 := h.rhi
 have h7 := h.hl
 unfold Rv.StillIn
 rw [h.dist, mem_missing]
 simp only
 have hr : (prog x).r = x.R % 16777216 := rfl
 rw [hr, show (g.2 % 16777216 - g.1 % 16777216) % 16777216 = g.2 - g.1 by omega]
 have hgap : (g.2 % 16777216 - x.R % 16777216) % 16777216 = if x.R <= g.2 then g.2 - x.R else g.2 - x.R + 16777216 := by
  split <;> omega
 rw [hgap, <- hr]
 constructor
 ·rintro ⟨a1, ⟨a2, a3, a4⟩, a5, a6⟩
  have hle : x.R <= g.2 := by
   split at a1 <;> omega
  rw [if_pos hle] at a5 a6
  exact ⟨⟨a2, by omega, by omega, (h.come n a2 a3).1 a4⟩, by omega, by omega⟩
 ·rintro ⟨⟨a2, a3, a4, a5⟩, a6, a7⟩
  rw [if_pos (show x.R <= g.2 by omega)]
  exact ⟨by omega, ⟨a2, by omega, (h.come n a2 (by omega)).2 a5⟩, by omega, by omega⟩
end
end Rf

namespace Rf
theorem foldl_filter {α β : Type} (f : β -> α -> β) (p : α -> Bool) (hp : ∀ b a, p a = false -> f b a = b) : ∀ (l : List α) (b : β), l.foldl f b = (l.filter p).foldl f b
 |[], _ => rfl
 |a :: l, b => by
  rw [List.foldl_cons, List.filter_cons]
  cases h : p a
  ·rw [hp b a h]
   simpa using foldl_filter f p hp l b
  ·simpa using foldl_filter f p hp l (f b a)
def inG (g : Int × Int) (n : Int) : Bool := decide (g.1 <= n ∧ n < g.2)
theorem ft_filter (x : S) (g : Int × Int) : ft x g = ((missing x).filter (inG g)).foldl (ftStep g) (-1, -1) := by
 unfold ft
 refine foldl_filter _ _ (fun b a h => ?_) _ _
 unfold inG at h
 have := of_decide_eq_false h
 unfold ftStep
 rw [if_neg (fun c => this ⟨c.1, c.2.1⟩)]
theorem fold_run (g : Int × Int) (f : Int) (hf : 0 <= f) : ∀ (k : Nat) (t : Int), (∀ i : Nat, i < k -> g.1 <= t + i ∧ t + i < g.2) -> ((List.range' 0 k).map fun i : Nat => t + (i : Int)).foldl (ftStep g) (f, t) = (f, t + k) := by
 intro k
 induction k with
 |zero => intro t _; simp
 |succ k ih =>
  intro t h
  rw [List.range'_1_concat, List.map_append, List.foldl_append, ih t (fun i hi => h i (by omega))]
  have := h k (by omega)
  simp only [List.map_cons, List.map_nil, List.foldl_cons, List.foldl_nil, Nat.zero_add]
  unfold ftStep
  rw [if_pos ⟨this.1, this.2, Or.inr rfl⟩, if_neg (by simp only; omega)]
  simp
  omega
theorem fold_far (g : Int × Int) (f t : Int) (hf : 0 <= f) : ∀ (l : List Int), (∀ n ∈ l, t < n) -> l.foldl (ftStep g) (f, t) = (f, t)
 |[], _ => rfl
 |n :: l, h => by
  have := h n (by simp)
  rw [List.foldl_cons]
  have e : ftStep g (f, t) n = (f, t) := by
   unfold ftStep
   rw [if_neg (by simp only; omega)]
  rw [e]
  exact fold_far g f t hf l (fun m hm => h m (by simp [hm]))

section
variable {x : S} {lo hi : Int}
theorem ft_none {g : Int × Int} (h : (missing x).filter (inG g) = []) : ft x g = (-1, -1) := by rw [ft_filter, h]; rfl
theorem ft_some {g : Int × Int} (h : Ok x lo hi) {y : Int × Int} {T : List (Int × Int)} (hT : Sp.Canon (y :: T)) (h0 : 0 <= y.1) (hm : (missing x).filter (inG g) = (Sp.nums (y :: T)).map (x.R + ·)) : ft x g = (x.R + y.1, x.R + y.2) := by
 have hlo := h.lo0.1
 have hlr := h.lor
 have hy := hT.head
 have hin : ∀ n ∈ (Sp.nums (y :: T)).map (x.R + ·), g.1 <= n ∧ n < g.2 := fun n hn => by
  rw [<- hm] at hn
  simpa [inG] using (List.mem_filter.1 hn).2
 rw [ft_filter, hm]
 have e : (Sp.nums (y :: T)).map (x.R + ·) = ((x.R + y.1) :: (List.range' 0 (y.2 - y.1 - 1).toNat).map fun i : Nat => x.R + y.1 + 1 + (i : Int)) ++ (Sp.nums T).map (x.R + ·) := by
  unfold Sp.nums
  rw [List.flatMap_cons, List.map_append]
  congr 1
  unfold Sp.run
  rw [List.map_map]
  obtain ⟨k, hk⟩ : ∃ k : Nat, (y.2 - y.1).toNat = k + 1 := ⟨(y.2 - y.1).toNat - 1, by omega⟩
  rw [hk, show (y.2 - y.1 - 1).toNat = k by omega, List.range_succ_eq_map, List.map_cons, List.map_map, <- List.range_eq_range']
  congr 1
  ·simp
  ·apply List.map_congr_left
   intro i _
   simp
   omega
 rw [e] at hin
 rw [e, List.foldl_append, List.foldl_cons]
 have h1 : ftStep g (-1, -1) (x.R + y.1) = (x.R + y.1, x.R + y.1 + 1) := by
  have := hin (x.R + y.1) (by simp)
  unfold ftStep
  rw [if_pos ⟨this.1, this.2, Or.inl (by decide)⟩, if_pos (by decide)]
 rw [h1, fold_run g _ (by omega) _ _ (fun i hi => hin _ (by
  rw [List.cons_append]
  refine List.mem_cons_of_mem _ (List.mem_append.2 (Or.inl (List.mem_map.2 ⟨i, List.mem_range'_1.2 ⟨by omega, by omega⟩, rfl⟩)))))]
 have h2 : x.R + y.1 + 1 + ((y.2 - y.1 - 1).toNat : Int) = x.R + y.2 := by omega
 rw [h2]
 exact fold_far g _ _ (by omega) _ (fun n hn => by
  obtain ⟨m, hm1, rfl⟩ := List.mem_map.1 hn
  have := hT.tail_far ((Sp.mem_nums _ _).1 hm1)
  omega)
theorem Ok.none_still (h : Ok x lo hi) {g : Int × Int} (hg : lo <= g.1 ∧ g.1 < g.2 ∧ g.2 <= x.H ∧ g.2 - g.1 <= 64) (hs : ∀ n, ¬ Rv.StillIn (prog x) (g.1 % 16777216, g.2 % 16777216) n) : ft x g = (-1, -1) := by
 refine ft_none (List.eq_nil_iff_forall_not_mem.2 fun n hn => ?_)
 obtain ⟨h1, h2⟩ := List.mem_filter.1 hn
 have h3 := (mem_missing _ _).1 h1
 refine hs (n - x.R) ((h.still hg _).2 ?_)
 rw [show x.R + (n - x.R) = n by omega]
 unfold inG at h2
 have := of_decide_eq_true h2
 exact ⟨⟨by omega, h1⟩, this.1, this.2⟩
theorem gapL_skip (x : S) : ∀ (pre gs : List (Int × Int)), (∀ g ∈ pre, ft x g = (-1, -1)) -> gapL x (pre ++ gs) = gapL x gs
 |[], gs, _ => rfl
 |g :: pre, gs, h => by
  have e : gapL x (g :: pre ++ gs) = if 0 <= (ft x g).1 then (renew { x with gaps := pre ++ gs }, (ft x g).1, (ft x g).2, true) else gapL x (pre ++ gs) := rfl
  rw [e, h g (by simp), if_neg (by decide)]
  exact gapL_skip x pre gs (fun g' hg' => h g' (by simp [hg']))
theorem Ok.told (h : Ok x lo hi) {l : List Int} {is : Bool} {st' : Rv.S} (ht : Rv.GapTold (prog x) l is st') :
  st' = prog (gap x).1 ∧ is = (gap x).2.2.2 ∧ Ok (gap x).1 lo hi ∧ (gap x).1.R = x.R ∧ (is = true -> l = [(gap x).2.1 % 16777216, (gap x).2.2.1 % 16777216]) ∧ (is = false -> l = []) := by
 unfold gap
 rcases ht with ⟨h1, h2, h3, h4⟩ | ⟨h1, pre, post, g, y, T, h2, h3, h4, h5, h6, h7⟩
 ·have e := gapL_skip x x.gaps [] (fun g hg => h.none_still (h.gaps g hg) (h4 _ (List.mem_map.2 ⟨g, hg, rfl⟩)))
  rw [List.append_nil] at e
  rw [e]
  exact ⟨h3, h1, h.gapless [] (fun _ hg => by cases hg) (by simp), rfl, fun e => by (rw [h1] at e; cases e), fun _ => h2⟩
 ·have h2' : x.gaps.map (fun g => (g.1 % 16777216, g.2 % 16777216)) = pre ++ g :: post := h2
  obtain ⟨pre', r', hr, rfl, e2⟩ := List.map_eq_append_iff.1 h2'
  obtain ⟨g', post', rfl, rfl, rfl⟩ := List.map_eq_cons_iff.1 e2
  have hgm : ∀ a ∈ pre' ++ g' :: post', a ∈ x.gaps := fun a ha => hr ▸ ha
  have hg' := h.gaps g' (hgm g' (by simp))
  rw [hr, gapL_skip x pre' _ (fun g hg => h.none_still (h.gaps g (hgm g (by simp [hg]))) (h3 _ (List.mem_map.2 ⟨g, hg, rfl⟩)))]
  have hy0 : 0 <= y.1 := by
   have hlt := h4.1.head.1
   exact ((h.still hg' _).1 ((h5 y.1).1 ((Sp.mem_cons _ _ _).2 (Or.inl ⟨Int.le_refl _, hlt⟩)))).1.1
  have hms : (missing x).filter (inG g') = (Sp.nums (y :: T)).map (x.R + ·) := by
   refine Sp.Rising.uniq (List.Pairwise.filter _ (missing_rising x)) ?_ fun n => ?_
   ·unfold Sp.Rising
    rw [List.pairwise_map]
    exact (Sp.nums_rising _ h4.1).imp fun h => by omega
   ·rw [List.mem_filter, List.mem_map]
    constructor
    ·rintro ⟨a1, a2⟩
     have a3 := (mem_missing _ _).1 a1
     have a4 : g'.1 <= n ∧ n < g'.2 := by simpa [inG] using a2
     exact ⟨n - x.R, (Sp.mem_nums _ _).2 ((h5 _).2 ((h.still hg' _).2 ⟨⟨by omega, by rw [show x.R + (n - x.R) = n by omega]; exact a1⟩, by omega, by omega⟩)), by omega⟩
    ·rintro ⟨k, hk, rfl⟩
     obtain ⟨⟨b1, b2⟩, b3, b4⟩ := (h.still hg' _).1 ((h5 _).1 ((Sp.mem_nums _ _).1 hk))
     exact ⟨b2, by simpa [inG] using ⟨b3, b4⟩⟩
  have hft := ft_some h h4.1 hy0 hms
  have hlo := h.lo0.1
  have hlr := h.lor
  unfold gapL
  rw [hft, if_pos (by simp only; omega)]
  have hsub : Ok { x with gaps := post' } lo hi := h.gapless post' (fun a ha => hgm a (by simp [ha])) (by
   have h8 := h.glen
   rw [hr] at h8
   simp at h8
   omega)
  obtain ⟨r1, r2⟩ := hsub.renew
  refine ⟨?_, h1, r2, rfl, fun _ => ?_, fun e => by (rw [h1] at e; cases e)⟩
  ·rw [h7, <- r1]
   rfl
  ·rw [h6]
   simp only [prog]
   congr 1
   ·omega
   ·congr 1
    omega

end
end Rf

namespace Rf
end Rf
end Go.Proofs.YtnenaemincfgpaaGreat
