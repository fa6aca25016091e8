/-
  Two ends of conn in plain words: what a pair does, its rounds, and a small likeness of it whose numbers are 0 and 1. No program is named.
-/
import Derived.Test.YtkmegkjkbalooaaCnI
namespace Go.Proofs.Ytkmegkjkbalooaa
open Go.RowKit

namespace Tw
open Cn

/-- Two ends, what is on its way to each, what each was told. -/
structure P where
  s0 : S
  s1 : S
  w0 : List Pd
  w1 : List Pd
  t0 : List Sig
  t1 : List Sig
def P.swap (p : P) : P := ⟨p.s1, p.s0, p.w1, p.w0, p.t1, p.t0⟩
def P.by_ (p : P) (y : SR) : P := { p with s0 := y.1, w1 := p.w1 ++ y.2.units, t0 := p.t0 ++ y.2.sigs }
def want (k : Int) : Int := if k = 1 then 2 else if k = 5 then 5 else if k = 7 then 6 else 0
def tellS (skip : Bool) (p : P) (sg : Sig) : P :=
  if want sg.kind = 0 ∨ skip = true then p else if askErr p.s0 (want sg.kind) no = 0 then p.by_ (askS p.s0 (want sg.kind) no) else p
def hearU (p : P) (u : Pd) : P := p.by_ (hearS p.s0 u)
def mid (skip : Bool) (p : P) : P := p.t0.foldl (tellS skip) p
def cut (p : P) : P := { p with w0 := [] }
def rnd (skip : Bool) (p : P) : P := (mid skip p).w0.foldl hearU (cut (mid skip p))
def rndN (n : Nat) (skip : Bool) (p : P) : P := if n % 2 = 0 then rnd skip p else (rnd skip p.swap).swap
def runH (sk : Nat → Bool) : Nat → P → P
  | 0, p => p
  | n + 1, p => rndN n (sk n) (runH sk n p)
def askK (c : Nat) : Int := if c = 0 then 1 else if c = 1 then 4 else 3
def askW (c : Nat) (p : P) : P := if c = 3 then p.by_ (failS p.s0 81) else if askErr p.s0 (askK c) no = 0 then p.by_ (askS p.s0 (askK c) no) else p
/-- The askers of a step: bit 0 the first, bit 1 the second, c what. -/
def start (b0 b1 : Bool) (c : Nat) (p : P) : P :=
  let p := if b0 then askW c p else p
  if b1 then (askW c p.swap).swap else p

/-! The likeness. -/
structure C where
  st : Int
  sq : Int
  pe : Int
  ms : Int
deriving DecidableEq
structure U where
  k : Int
  sq : Int
  n : Int
deriving DecidableEq
structure F where
  f1 : Bool
  f5 : Bool
  f7 : Bool
  n : Nat
deriving DecidableEq
structure Q where
  a : C
  b : C
  wa : List U
  wb : List U
  fa : F
  fb : F
deriving DecidableEq
def C.toS (cr : Int) (c : C) : S := ⟨3, cr, c.st, c.sq, c.pe, 0, c.ms, no⟩
def ofS (s : S) : C := ⟨s.state, s.sq, s.peer, s.ms⟩
def U.toP (u : U) : Pd := ⟨u.k, u.sq, u.n, 0, 0, none, 0, 0, false, no⟩
def ofP (p : Pd) : U := ⟨p.kind, p.sq, p.n⟩
def F.add (f : F) (l : List Sig) : F := ⟨f.f1 || l.any (fun s => s.kind == 1), f.f5 || l.any (fun s => s.kind == 5), f.f7 || l.any (fun s => s.kind == 7), f.n + l.length⟩
def Q.swap (q : Q) : Q := ⟨q.b, q.a, q.wb, q.wa, q.fb, q.fa⟩
def Q.by_ (q : Q) (y : SR) : Q := { q with a := ofS y.1, wb := q.wb ++ y.2.units.map ofP, fa := q.fa.add y.2.sigs }
def ansK (st : Int) : Int := if st = 3 then 2 else if st = 6 then 5 else if st = 8 ∨ st = 9 then 6 else 0
def answer (cr : Int) (q : Q) : Q := if ansK q.a.st = 0 then q else q.by_ (askS (q.a.toS cr) (ansK q.a.st) no)
def hearQ (cr : Int) (q : Q) (u : U) : Q := q.by_ (hearS (q.a.toS cr) u.toP)
def rndQ (cr : Int) (skip : Bool) (q : Q) : Q :=
  let q := if skip then q else answer cr q
  q.wa.foldl (hearQ cr) { q with wa := [] }
def rndQN (n : Nat) (skip : Bool) (q : Q) : Q := if n % 2 = 0 then rndQ 5 skip q else (rndQ 6 skip q.swap).swap
def askQ (cr : Int) (c : Nat) (q : Q) : Q := if c = 3 then q.by_ (failS (q.a.toS cr) 81) else q.by_ (askS (q.a.toS cr) (askK c) no)
def startQ (b0 b1 : Bool) (c : Nat) (q : Q) : Q :=
  let q := if b0 then askQ 5 c q else q
  if b1 then (askQ 6 c q.swap).swap else q
/-- Flags tell the state; few are on their way. -/
def okF (c : C) (f : F) : Bool := (!(c.st == 3) || f.f1) && (!(c.st == 6) || f.f5) && (!(c.st == 8 || c.st == 9) || f.f7) && decide (1 ≤ c.st) && decide (c.st ≤ 10)
def okQ (q : Q) : Bool := okF q.a q.fa && okF q.b q.fb && decide (q.wa.length ≤ 8) && decide (q.wb.length ≤ 8) && decide (q.fa.n ≤ 60) && decide (q.fb.n ≤ 60)
def ins (l : List Q) (q : Q) : List Q := if q ∈ l then l else q :: l
def nexts (n : Nat) (l : List Q) : List Q := l.foldl (fun acc q => let acc := ins acc (rndQN n false q); if n < 8 then ins acc (rndQN n true q) else acc) []
/-- So many rounds from round n on: every state on the way may be, and the last ones are as 'fin' says. -/
def chk (fin : Q → Bool) : Nat → Nat → List Q → Bool
  | 0, _, l => l.all okQ && l.all fin
  | f + 1, n, l => l.all okQ && chk fin f (n + 1) (nexts n l)
def f0 : F := ⟨false, false, false, 0⟩
def qs : List Q := [⟨⟨1, 0, -1, 6⟩, ⟨1, 0, 0, 5⟩, [], [], f0, f0⟩, ⟨⟨1, 0, 0, 6⟩, ⟨1, 0, -1, 5⟩, [], [], f0, f0⟩, ⟨⟨1, 0, 0, 6⟩, ⟨1, 0, 0, 5⟩, [], [], f0, f0⟩, ⟨⟨10, 0, 0, 6⟩, ⟨10, 0, 0, 5⟩, [], [], f0, f0⟩,
  ⟨⟨10, 0, 0, 6⟩, ⟨10, 0, -1, 5⟩, [], [], f0, f0⟩, ⟨⟨10, 0, -1, 6⟩, ⟨10, 0, 0, 5⟩, [], [], f0, f0⟩, ⟨⟨1, 0, -1, 5⟩, ⟨1, 0, -1, 6⟩, [], [], f0, f0⟩]
/-- The numbers set back. -/
def canon (q : Q) : Q :=
  ⟨⟨q.a.st, if q.b.pe = q.a.sq then 0 else q.a.sq, if q.a.pe = q.b.sq then 0 else q.a.pe, q.a.ms⟩, ⟨q.b.st, if q.a.pe = q.b.sq then 0 else q.b.sq, if q.b.pe = q.a.sq then 0 else q.b.pe, q.b.ms⟩, [], [], f0, f0⟩
def fin (q : Q) : Bool := q.wa.isEmpty && q.wb.isEmpty && decide (0 ≤ q.a.sq) && decide (0 ≤ q.b.sq) && decide (canon q ∈ qs)
set_option maxRecDepth 100000 in
theorem checked : (qs.all fun q => (List.range 16).all fun c => chk fin 60 0 [startQ (c % 2 == 1) (c / 2 % 2 == 1) (c / 4) q]) = true := by decide +kernel
end Tw
end Go.Proofs.Ytkmegkjkbalooaa
