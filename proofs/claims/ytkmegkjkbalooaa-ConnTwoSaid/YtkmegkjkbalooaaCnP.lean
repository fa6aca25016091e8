/-
  conn: a connection in plain words: its numbers, what a call brings, and each function of it. No program is named.
-/
import Derived.Test.YtkmegkjkbalooaaMem
namespace Go.Proofs.Ytkmegkjkbalooaa
open Go.RowKit

namespace Cn
/-- A signal. -/
structure Sig where
  kind : Int
  data : ByteArray
  self : Bool
  code : Int
  n : Int
/-- A unit. -/
structure Pd where
  kind : Int
  sq : Int
  n : Int
  ps : Int
  mr : Int
  lA : Option Addr
  ln : Nat
  lc : Nat
  self : Bool
  data : ByteArray
/-- A connection. -/
structure S where
  most : Int
  credit : Int
  state : Int
  sq : Int
  peer : Int
  cc : Int
  ms : Int
  data : ByteArray
/-- What a call brings. -/
structure R where
  sigs : List Sig
  units : List Pd
  begins : Bool
  ends : Bool
  ms : Int
  timer : Int

def no : ByteArray := ByteArray.empty
def r0 : R := ⟨[], [], false, false, 0, 0⟩
def sig (kind : Int) (self : Bool) (data : ByteArray) : Sig := ⟨kind, data, self, 0, 0⟩
def unit_ (kind sq : Int) (self : Bool) (data : ByteArray) : Pd := ⟨kind, sq, 0, 0, 0, none, 0, 0, self, data⟩
def has (k : Int) : Bool := k == 1 || k == 2 || k == 5 || k == 6 || k == 9 || k == 15
abbrev SR := S × R

def tell (x : SR) (s : Sig) : SR := (x.1, { x.2 with sigs := x.2.sigs ++ [s] })
def crd (x : S) (p : Pd) : Pd := if has p.kind then { p with n := x.credit } else p
def out (x : SR) (p : Pd) : SR := (x.1, { x.2 with units := x.2.units ++ [crd x.1 p] })
def to (x : SR) (st : Int) : SR := ({ x.1 with state := st }, { x.2 with ends := x.2.ends || x.1.state == 10 })
def stop (x : SR) (st : Int) : SR := let y := to x st; (y.1, { y.2 with timer := 2 })
def ready (x : SR) : SR := let y := stop x 10; (y.1, { y.2 with begins := true, ms := y.1.ms })
def akind (st : Int) : Int := if st = 2 then 1 else if st = 4 then 3 else if st = 5 then 5 else 9
def again (x : SR) : SR := let y := out x (unit_ (akind x.1.state) x.1.sq false x.1.data); (y.1, { y.2 with timer := 1 })
def begin_ (x : SR) (st : Int) (data : ByteArray) : SR :=
  let y := to x st
  again ({ y.1 with sq := (y.1.sq + 1) % 256, cc := 1, data := data }, y.2)
def leave (x : SR) (data : ByteArray) : SR :=
  let y := to x 4
  again ({ y.1 with cc := 1, data := data }, y.2)
def quit (x : SR) : SR := out x (unit_ 3 x.1.sq true no)
def report (x : SR) (code : Int) : SR := tell x ⟨12, no, false, code, 0⟩
def backs (x : SR) (p : Pd) (kind : Int) (l : List Int) : SR := l.foldl (fun x s => if s = x.1.state then out x (unit_ kind p.sq false no) else x) x
def heard (x : SR) (p : Pd) : SR := ({ x.1 with peer := p.sq, ms := p.n }, x.2)

def ask (x : SR) (kind : Int) (data : ByteArray) : SR :=
  if kind = 1 then begin_ x 2 data
  else if kind = 2 then ready (out x (unit_ 2 x.1.peer false no))
  else if kind = 3 then (if x.1.state = 3 then to (out x (unit_ 7 x.1.peer false data)) 1 else leave x data)
  else if kind = 4 then begin_ x 5 data
  else if kind = 5 then ready (out x (unit_ 6 x.1.peer false no))
  else if kind = 6 then (if x.1.state = 9 then ready (out x (unit_ 15 x.1.peer false no)) else ready x)
  else x
def oldBegin (x : SR) (p : Pd) : SR := backs (backs x p 7 [1]) p 2 [5, 6, 7, 8, 9, 10]
def newBegin (x : SR) (p : Pd) : SR :=
  let y := heard x p
  if x.1.state = 1 then to (tell y (sig 1 false p.data)) 3
  else if x.1.state = 2 then ready (tell (backs y p 2 [2]) (sig 2 false no))
  else if x.1.state = 4 then stop (tell (tell y (sig 4 false no)) (sig 1 false p.data)) 3
  else stop (tell (tell y (sig 3 false no)) (sig 1 false p.data)) 3
def end_ (x : SR) (p : Pd) : SR :=
  let y := out x (unit_ 4 p.sq false no)
  if x.1.state = 1 then y
  else if x.1.state = 4 then stop (tell y (sig 4 false no)) 1
  else stop (tell y (sig 3 p.self p.data)) 1
def resync (x : SR) (p : Pd) : SR :=
  let y := heard x p
  if x.1.state = 5 then ready (tell (out y (unit_ 6 p.sq false no)) (sig 6 false no))
  else if x.1.state = 6 then y
  else stop (tell y (sig 5 false p.data)) 6
def recover (x : SR) (p : Pd) : SR :=
  let y := backs (heard x p) p 15 [7, 8]
  if x.1.state = 7 then stop (tell y (sig 7 false no)) 8
  else if x.1.state = 10 then to (tell y (sig 7 false no)) 9
  else y
def setMs (x : SR) (p : Pd) : SR := ({ x.1 with ms := p.n }, x.2)
def answer (x : SR) (p : Pd) : SR :=
  if p.kind = 2 then ready (tell (setMs x p) (sig 2 false no))
  else if p.kind = 6 then ready (tell (setMs x p) (sig 6 false no))
  else if p.kind = 15 then stop (tell (setMs x p) (sig 7 false no)) 8
  else if p.kind = 7 ∨ p.kind = 4 then stop (tell x (if x.1.state = 2 then sig 3 false p.data else sig 4 false no)) 1
  else x
def handle (x : SR) (p : Pd) : SR :=
  if p.kind = 1 then (if p.sq = x.1.peer then oldBegin x p else newBegin x p)
  else if p.kind = 3 then end_ x p
  else if p.kind = 5 then (if p.sq = x.1.peer then backs x p 6 [7, 8, 9, 10] else resync x p)
  else if p.kind = 9 then (if p.sq = x.1.peer then backs x p 15 [8, 10] else recover x p)
  else if p.sq = x.1.sq then answer x p else x

theorem backs_fst (x : SR) (p : Pd) (kind : Int) (l : List Int) : (backs x p kind l).1 = x.1 := by
  unfold backs
  induction l generalizing x with
  | nil => rfl
  | cons s l ih =>
    rw [List.foldl_cons, ih]
    split <;> rfl
theorem backs_snoc (x : SR) (p : Pd) (kind : Int) (l : List Int) (s : Int) : backs x p kind (l ++ [s]) = if s = x.1.state then out (backs x p kind l) (unit_ kind p.sq false no) else backs x p kind l := by
  have h := backs_fst x p kind l
  unfold backs at h ⊢
  rw [List.foldl_append, List.foldl_cons, List.foldl_nil, h]
def fail (x : SR) (code : Int) : SR := begin_ (report x code) 7 no
def silent (x : SR) : SR := to (tell (quit (report x 80)) (sig 3 true no)) 1
def expire (x : SR) : SR :=
  if x.1.state = 2 ∨ x.1.state = 4 ∨ x.1.state = 5 ∨ x.1.state = 7 then
    (if x.1.cc < x.1.most then again ({ x.1 with cc := x.1.cc + 1 }, x.2)
    else if x.1.state = 4 then stop (tell (report x 79) (sig 4 false no)) 1 else stop (tell (quit (report x 79)) (sig 3 true no)) 1)
  else x
/-- what: the word of rules.Of, l: its letter. -/
def hear (what l : Int) (x : SR) (p : Pd) : SR :=
  if what = 1 then handle x p
  else if what = 2 then report x l
  else if what = 3 then quit (report x l)
  else if what = 4 then stop (tell (report x l) (sig 3 true no)) 1
  else x
def new (most credit : Int) : S := ⟨max 1 (min most 16), credit % 16777216, 1, 0, -1, 0, credit % 16777216, no⟩
/-- Few are in it. -/
def Few (n : Nat) (x : SR) : Prop := x.2.sigs.length ≤ n ∧ x.2.units.length ≤ n
/-- Its numbers are in their bounds. -/
structure Ok (s : S) : Prop where
  sq0 : 0 ≤ s.sq
  sq1 : s.sq ≤ 255
  cc0 : 0 ≤ s.cc
  cc1 : s.cc ≤ 16
  most0 : 1 ≤ s.most
  most1 : s.most ≤ 16
end Cn
end Go.Proofs.Ytkmegkjkbalooaa
