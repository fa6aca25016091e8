/-
  node.Node: an end in memory, with or without an epoch. Each part lies in blocks of a number of its own: k the end, k + 1 its connection, k + 2 its timers, k + 3 the row of units, k + 4 what goes out first, k + 5 the sender, k + 6 the receiver, k + 7 what was left; k + 8 what was handed out.
-/
import Derived.Test.YtnenaemincfgpaaGreatPrA
import Derived.Test.YtnenaemincfgpaaGreatEnQ
import Derived.Test.YtnenaemincfgpaaGreatRPdu
import Derived.Test.YtnenaemincfgpaaGreatSnd
import Derived.Test.YtnenaemincfgpaaGreatRcv
namespace Go.Proofs.YtnenaemincfgpaaGreat
open Go.RowKit
set_option maxRecDepth 20000

def lab (D : Nat -> Nat) (h v : Nat) : Nat -> Nat := fun b => if b < h then D b else v
def Lab (k : Nat) (D D' : Nat -> Nat) (h : Nat) : Prop := (∀ b, b < h -> D' b = D b) ∧ ∀ b, h <= b -> k <= D' b ∧ D' b <= k + 8
theorem lab_lab (k : Nat) (D : Nat -> Nat) (h i : Nat) (hi : i <= 8) : Lab k D (lab D h (k + i)) h := by
 refine ⟨fun b hb => if_pos hb, fun b hb => ?_⟩
 unfold lab
 rw [if_neg (by omega)]
 omega
theorem lab_new {D : Nat -> Nat} {h v b : Nat} (hb : h <= b) : lab D h v b = v := if_neg (by omega)
theorem lab_old {D : Nat -> Nat} {h v b : Nat} (hb : b < h) : lab D h v b = D b := if_pos hb
def Of (D : Nat -> Nat) (i : Nat) : Nat -> Prop := fun b => D b = i
def All (D : Nat -> Nat) (k : Nat) : Nat -> Prop := fun b => k <= D b ∧ D b < k + 8

theorem SendAt.cutE {w : World} {p : Nat} {F : Nat -> Prop} {st : Sd.S} (h : SendAt w p F st) : SendAt w p (fun x => F x ∧ x < w.heap.size) st := by
 obtain ⟨g, b, k, A, c, h1, hF⟩ := h.open_
 exact SendAt.mk' h1 ⟨⟨hF.p, h1.blk.lt⟩, ⟨hF.g, h1.ring.lt⟩, fun x hx => ⟨hF.b x hx, h1.ring.ltb x hx⟩, ⟨hF.k, h1.map.lt⟩, fun ad ha => ⟨hF.A ad ha, h1.ag.lt ad ha⟩⟩
namespace En
def ptr (p : Option Nat) : Value := .pointer (p.map fun g => ⟨g, 0, none⟩)
def X.cells (x : X) (cn pc un : Nat) (sp rp : Option Nat) (A : Option Addr) (ca : Nat) (B : Option Addr) (cb : Nat) : List Value :=
 x.c.cells ++ [.pointer (some ⟨cn, 0, none⟩), .pointer (some ⟨pc, 0, none⟩), ptr sp, ptr rp, .slice A x.ctl.length ca, .pointer (some ⟨un, 0, none⟩), .bool x.poll, .bool x.stat, .int .u32 x.asked, .bool x.lacks, .slice B x.left.length cb]
end En

section
variable {k : Nat} {D D' : Nat -> Nat} {w w' : World}
def PC (k : Nat) (D : Nat -> Nat) (w : World) (cn : Nat) (s : Cn.S) : Prop := ConnAt w cn s ∧ Cn.Ok s ∧ D cn = k + 1
def PP (k : Nat) (D : Nat -> Nat) (w : World) (pc : Nat) (tm : List Int) (c : Nd.C) : Prop := Pk w pc tm c.cc c.poll c.keep c.silent c.idle ∧ D pc = k + 2
def PU (k : Nat) (D : Nat -> Nat) (w : World) (un : Nat) (us : List Cn.Pd) (m : Nat) : Prop := ∃ b, RingPdu w un b m us ∧ D un = k + 3 ∧ ∀ g, b = some g -> D g = k + 3
def PL (k : Nat) (D : Nat -> Nat) (w : World) (A : Option Addr) (ca : Nat) (l : List Cn.Pd) : Prop := Sl pduE w A ca l ∧ ∀ ad, A = some ad -> D ad.block = k + 4
def PF (k : Nat) (D : Nat -> Nat) (w : World) (B : Option Addr) (cb : Nat) (l : List ByteArray) : Prop := Sl strE w B cb l ∧ ∀ ad, B = some ad -> D ad.block = k + 7
def PS (k : Nat) (D : Nat -> Nat) (w : World) (p : Nat) (s : Sf.S) : Prop := ∃ F, SendAt w p F (Sf.prog s) ∧ ∀ b, F b -> D b = k + 5 ∧ b < w.heap.size
def PR (k : Nat) (D : Nat -> Nat) (w : World) (p : Nat) (r : Rf.S) : Prop := ∃ F, RecvAt w p F (Rf.prog r) ∧ ∀ b, F b -> D b = k + 6 ∧ b < w.heap.size
def PE (k : Nat) (D : Nat -> Nat) (w : World) (sp rp : Option Nat) : Option (Sf.S × Rf.S) -> Prop
 |none => sp = none ∧ rp = none
 |some e => ∃ p q, sp = some p ∧ rp = some q ∧ PS k D w p e.1 ∧ PR k D w q e.2

structure EndIn (k : Nat) (D : Nat -> Nat) (w : World) (n cn pc un : Nat) (sp rp : Option Nat) (A : Option Addr) (ca : Nat) (B : Option Addr) (cb : Nat) (x : En.X) : Prop where
 b : Blk w n 77 (x.cells cn pc un sp rp A ca B cb) ∧ D n = k
 c : PC k D w cn x.conn
 p : PP k D w pc x.tm x.c
 u : PU k D w un x.units x.c.units.toNat
 l : PL k D w A ca x.ctl
 f : PF k D w B cb x.left
 e : PE k D w sp rp x.ep

theorem PC.keep {cn : Nat} {s : Cn.S} {T : Nat -> Prop} (h : PC k D w cn s) (ht : Touch T w w') (hT : ∀ b, T b -> D b ≠ k + 1) (hD : ∀ b, b < w.heap.size -> D' b = D b) : PC k D' w' cn s :=
 ⟨ht.blk h.1 (fun e => hT _ e h.2.2), h.2.1, (hD _ h.1.lt).trans h.2.2⟩
theorem PP.keep {pc : Nat} {tm : List Int} {c : Nd.C} {T : Nat -> Prop} (h : PP k D w pc tm c) (ht : Touch T w w') (hT : ∀ b, T b -> D b ≠ k + 2) (hD : ∀ b, b < w.heap.size -> D' b = D b) : PP k D' w' pc tm c :=
 ⟨Bk.touch h.1 ht (fun e => hT _ e h.2), (hD _ h.1.2.2.lt).trans h.2⟩
theorem PU.keep {un : Nat} {us : List Cn.Pd} {m : Nat} {T : Nat -> Prop} (h : PU k D w un us m) (ht : Touch T w w') (hT : ∀ b, T b -> D b ≠ k + 3) (hD : ∀ b, b < w.heap.size -> D' b = D b) : PU k D' w' un us m := by
 obtain ⟨b, h1, h2, h3⟩ := h
 exact ⟨b, h1.touch ht (fun e => hT _ e h2) (fun g hg e => hT _ e (h3 g hg)), (hD _ h1.lt).trans h2, fun g hg => (hD _ (h1.ltb g hg)).trans (h3 g hg)⟩
theorem PL.keep {A : Option Addr} {ca : Nat} {l : List Cn.Pd} {T : Nat -> Prop} (h : PL k D w A ca l) (ht : Touch T w w') (hT : ∀ b, T b -> D b ≠ k + 4) (hD : ∀ b, b < w.heap.size -> D' b = D b) : PL k D' w' A ca l :=
 ⟨h.1.touch ht (fun ad ha e => hT _ e (h.2 ad ha)), fun ad ha => (hD _ (h.1.lt ad ha)).trans (h.2 ad ha)⟩
theorem PF.keep {A : Option Addr} {ca : Nat} {l : List ByteArray} {T : Nat -> Prop} (h : PF k D w A ca l) (ht : Touch T w w') (hT : ∀ b, T b -> D b ≠ k + 7) (hD : ∀ b, b < w.heap.size -> D' b = D b) : PF k D' w' A ca l :=
 ⟨h.1.touch ht (fun ad ha e => hT _ e (h.2 ad ha)), fun ad ha => (hD _ (h.1.lt ad ha)).trans (h.2 ad ha)⟩
theorem PS.keep {p : Nat} {s : Sf.S} {T : Nat -> Prop} (h : PS k D w p s) (ht : Touch T w w') (hT : ∀ b, T b -> D b ≠ k + 5) (hD : ∀ b, b < w.heap.size -> D' b = D b) : PS k D' w' p s := by
 obtain ⟨F, h1, h2⟩ := h
 exact ⟨F, h1.touch ht (fun b hb _ e => hT _ e (h2 b hb).1), fun b hb => ⟨(hD _ (h2 b hb).2).trans (h2 b hb).1, Nat.lt_of_lt_of_le (h2 b hb).2 ht.size⟩⟩
theorem PR.keep {p : Nat} {r : Rf.S} {T : Nat -> Prop} (h : PR k D w p r) (ht : Touch T w w') (hT : ∀ b, T b -> D b ≠ k + 6) (hD : ∀ b, b < w.heap.size -> D' b = D b) : PR k D' w' p r := by
 obtain ⟨F, h1, h2⟩ := h
 exact ⟨F, h1.touch ht (fun b hb e => hT _ e (h2 b hb).1), fun b hb => ⟨(hD _ (h2 b hb).2).trans (h2 b hb).1, Nat.lt_of_lt_of_le (h2 b hb).2 ht.size⟩⟩
theorem PE.keep {sp rp : Option Nat} {e : Option (Sf.S × Rf.S)} {T : Nat -> Prop} (h : PE k D w sp rp e) (ht : Touch T w w') (hT : ∀ b, T b -> D b ≠ k + 5 ∧ D b ≠ k + 6) (hD : ∀ b, b < w.heap.size -> D' b = D b) : PE k D' w' sp rp e := by
 cases e with
 |none => exact h
 |some e =>
  obtain ⟨p, q, h1, h2, h3, h4⟩ := h
  exact ⟨p, q, h1, h2, h3.keep ht (fun b hb => (hT b hb).1) hD, h4.keep ht (fun b hb => (hT b hb).2) hD⟩

variable {n cn pc un : Nat} {sp rp : Option Nat} {A B : Option Addr} {ca cb : Nat} {x : En.X}
theorem EndIn.keep {T : Nat -> Prop} (h : EndIn k D w n cn pc un sp rp A ca B cb x) (ht : Touch T w w') (hT : ∀ b, T b -> ¬ (k <= D b ∧ D b < k + 8)) (hD : ∀ b, b < w.heap.size -> D' b = D b) : EndIn k D' w' n cn pc un sp rp A ca B cb x :=
 have hn : ∀ i, i < 8 -> ∀ b, T b -> D b ≠ k + i := fun i hi b hb e => hT b hb (by omega)
 ⟨⟨ht.blk h.b.1 (fun e => hn 0 (by omega) _ e h.b.2), (hD _ h.b.1.lt).trans h.b.2⟩, h.c.keep ht (hn 1 (by omega)) hD, h.p.keep ht (hn 2 (by omega)) hD, h.u.keep ht (hn 3 (by omega)) hD, h.l.keep ht (hn 4 (by omega)) hD, h.f.keep ht (hn 7 (by omega)) hD, h.e.keep ht (fun b hb => ⟨hn 5 (by omega) b hb, hn 6 (by omega) b hb⟩) hD⟩
theorem EndIn.old (h : EndIn k D w n cn pc un sp rp A ca B cb x) (ht : Fresh w w') (hD : ∀ b, b < w.heap.size -> D' b = D b) : EndIn k D' w' n cn pc un sp rp A ca B cb x := h.keep ht (fun _ e => e.elim) hD
theorem EndIn.turn {T : Nat -> Prop} {i : Nat} (h : EndIn k D w n cn pc un sp rp A ca B cb x) (ht : Touch T w w') (hT : ∀ b, T b -> D b = k + i) (hD : ∀ b, b < w.heap.size -> D' b = D b) :
  (i ≠ 0 -> Blk w' n 77 (x.cells cn pc un sp rp A ca B cb) ∧ D' n = k) ∧ (i ≠ 1 -> PC k D' w' cn x.conn) ∧ (i ≠ 2 -> PP k D' w' pc x.tm x.c) ∧ (i ≠ 3 -> PU k D' w' un x.units x.c.units.toNat) ∧ (i ≠ 4 -> PL k D' w' A ca x.ctl) ∧ (i ≠ 7 -> PF k D' w' B cb x.left) ∧ (i ≠ 5 -> i ≠ 6 -> PE k D' w' sp rp x.ep) :=
 ⟨fun hi => ⟨ht.blk h.b.1 (fun e => by have := hT _ e; have := h.b.2; omega), (hD _ h.b.1.lt).trans h.b.2⟩, fun hi => h.c.keep ht (fun b hb => by have := hT _ hb; omega) hD, fun hi => h.p.keep ht (fun b hb => by have := hT _ hb; omega) hD, fun hi => h.u.keep ht (fun b hb => by have := hT _ hb; omega) hD, fun hi => h.l.keep ht (fun b hb => by have := hT _ hb; omega) hD, fun hi => h.f.keep ht (fun b hb => by have := hT _ hb; omega) hD, fun hi hj => h.e.keep ht (fun b hb => by have := hT _ hb; omega) hD⟩
theorem EndIn.conned {s : Cn.S} {T : Nat -> Prop} (h : EndIn k D w n cn pc un sp rp A ca B cb x) (hc : ConnAt w' cn s) (ho : Cn.Ok s) (ht : Touch T w w') (hT : ∀ b, T b -> D b = k + 1) (hD : ∀ b, b < w.heap.size -> D' b = D b) : EndIn k D' w' n cn pc un sp rp A ca B cb { x with conn := s } := by
 obtain ⟨h0, -, h2, h3, h4, h5, h6⟩ := h.turn ht hT hD
 exact ⟨h0 (by omega), ⟨hc, ho, (hD _ h.c.1.lt).trans h.c.2.2⟩, h2 (by omega), h3 (by omega), h4 (by omega), h5 (by omega), h6 (by omega) (by omega)⟩
theorem EndIn.paced {tm : List Int} {T : Nat -> Prop} (h : EndIn k D w n cn pc un sp rp A ca B cb x) (hp : Pk w' pc tm x.c.cc x.c.poll x.c.keep x.c.silent x.c.idle) (ht : Touch T w w') (hT : ∀ b, T b -> D b = k + 2) (hD : ∀ b, b < w.heap.size -> D' b = D b) : EndIn k D' w' n cn pc un sp rp A ca B cb { x with tm := tm } := by
 obtain ⟨h0, h1, -, h3, h4, h5, h6⟩ := h.turn ht hT hD
 exact ⟨h0 (by omega), h1 (by omega), ⟨hp, (hD _ h.p.1.2.2.lt).trans h.p.2⟩, h3 (by omega), h4 (by omega), h5 (by omega), h6 (by omega) (by omega)⟩
theorem EndIn.rowed {us : List Cn.Pd} {T : Nat -> Prop} (h : EndIn k D w n cn pc un sp rp A ca B cb x) (hu : PU k D' w' un us x.c.units.toNat) (ht : Touch T w w') (hT : ∀ b, T b -> D b = k + 3) (hD : ∀ b, b < w.heap.size -> D' b = D b) : EndIn k D' w' n cn pc un sp rp A ca B cb { x with units := us } := by
 obtain ⟨h0, h1, h2, -, h4, h5, h6⟩ := h.turn ht hT hD
 exact ⟨h0 (by omega), h1 (by omega), h2 (by omega), hu, h4 (by omega), h5 (by omega), h6 (by omega) (by omega)⟩
theorem EndIn.sent {s s' : Sf.S} {r : Rf.S} {T : Nat -> Prop} {p : Nat} (h : EndIn k D w n cn pc un sp rp A ca B cb x) (he : x.ep = some (s, r)) (hsp : sp = some p) (hs : PS k D' w' p s') (ht : Touch T w w') (hT : ∀ b, T b -> D b = k + 5) (hD : ∀ b, b < w.heap.size -> D' b = D b) : EndIn k D' w' n cn pc un sp rp A ca B cb { x with ep := some (s', r) } := by
 obtain ⟨h0, h1, h2, h3, h4, h5, -⟩ := h.turn ht hT hD
 have e := h.e
 rw [he] at e
 obtain ⟨p', q, e1, e2, -, e4⟩ := e
 exact ⟨h0 (by omega), h1 (by omega), h2 (by omega), h3 (by omega), h4 (by omega), h5 (by omega), p, q, hsp, e2, hs, e4.keep ht (fun b hb => by have := hT _ hb; omega) hD⟩
theorem EndIn.recvd {s : Sf.S} {r r' : Rf.S} {T : Nat -> Prop} {q : Nat} (h : EndIn k D w n cn pc un sp rp A ca B cb x) (he : x.ep = some (s, r)) (hrp : rp = some q) (hr : PR k D' w' q r') (ht : Touch T w w') (hT : ∀ b, T b -> D b = k + 6) (hD : ∀ b, b < w.heap.size -> D' b = D b) : EndIn k D' w' n cn pc un sp rp A ca B cb { x with ep := some (s, r') } := by
 obtain ⟨h0, h1, h2, h3, h4, h5, -⟩ := h.turn ht hT hD
 have e := h.e
 rw [he] at e
 obtain ⟨p, q', e1, e2, e3, -⟩ := e
 exact ⟨h0 (by omega), h1 (by omega), h2 (by omega), h3 (by omega), h4 (by omega), h5 (by omega), p, q, e1, hrp, e3.keep ht (fun b hb => by have := hT _ hb; omega) hD, hr⟩
theorem EndIn.put {x' : En.X} {sp' rp' : Option Nat} {A' B' : Option Addr} {ca' cb' : Nat} (h : EndIn k D w n cn pc un sp rp A ca B cb x) (i : Nat) (u : Value) (hc : (x.cells cn pc un sp rp A ca B cb).set i u = x'.cells cn pc un sp' rp' A' ca' B' cb')
  (h1 : x'.conn = x.conn) (h2 : x'.tm = x.tm ∧ x'.c = x.c) (h3 : x'.units = x.units) (hl : PL k D w A' ca' x'.ctl) (hf : PF k D w B' cb' x'.left) (he : PE k D w sp' rp' x'.ep) : EndIn k D (w.setCell ⟨n, i, none⟩ u) n cn pc un sp' rp' A' ca' B' cb' x' := by
 have hb := h.b.1.set i u
 rw [hc] at hb
 have ht := Touch.set1 w n i u
 have hT : ∀ j, j ≠ 0 -> ∀ b, b = n -> D b ≠ k + j := fun j hj b hb e => by subst hb; have := h.b.2; omega
 refine ⟨⟨hb, h.b.2⟩, ?_, ?_, ?_, hl.keep ht (hT 4 (by omega)) (fun _ _ => rfl), hf.keep ht (hT 7 (by omega)) (fun _ _ => rfl), he.keep ht (fun b hb => ⟨hT 5 (by omega) b hb, hT 6 (by omega) b hb⟩) (fun _ _ => rfl)⟩
 ·rw [h1]; exact h.c.keep ht (hT 1 (by omega)) (fun _ _ => rfl)
 ·rw [h2.1, h2.2]; exact h.p.keep ht (hT 2 (by omega)) (fun _ _ => rfl)
 ·rw [h3, h2.2]; exact h.u.keep ht (hT 3 (by omega)) (fun _ _ => rfl)
end

def EndAt (k : Nat) (D : Nat -> Nat) (w : World) (n : Nat) (x : En.X) : Prop := ∃ cn pc un sp rp A ca B cb, EndIn k D w n cn pc un sp rp A ca B cb x
structure EndTo (k : Nat) (D D' : Nat -> Nat) (w w' : World) (n : Nat) (x : En.X) : Prop where
 at_ : EndAt k D' w' n x
 lab : Lab k D D' w.heap.size
 touch : Touch (All D k) w w'
section
variable {k : Nat} {D D' D2 : Nat -> Nat} {w w' w2 : World} {n : Nat} {x y : En.X}
theorem Lab.refl (k : Nat) (D : Nat -> Nat) (w : World) (hD : ∀ b, w.heap.size <= b -> k <= D b ∧ D b <= k + 8) : Lab k D D w.heap.size := ⟨fun _ _ => rfl, hD⟩
theorem Lab.trans (h : Lab k D D' w.heap.size) (h' : Lab k D' D2 w'.heap.size) (hs : w.heap.size <= w'.heap.size) : Lab k D D2 w.heap.size :=
 ⟨fun b hb => (h'.1 b (by omega)).trans (h.1 b hb), fun b hb => by
  by_cases e : b < w'.heap.size
  ·rw [h'.1 b e]; exact h.2 b hb
  ·exact h'.2 b (by omega)⟩
theorem Touch.then (ht : Touch (All D k) w w') (hl : Lab k D D' w.heap.size) (h : Touch (All D' k) w' w2) : Touch (All D k) w w2 := ht.trans h fun b hb e => by
 unfold All at *
 rw [hl.1 b hb] at e
 exact e
theorem EndTo.then (h : EndTo k D D' w w' n x) (h' : EndTo k D' D2 w' w2 n y) : EndTo k D D2 w w2 n y :=
 ⟨h'.at_, h.lab.trans h'.lab h.touch.size, h.touch.then h.lab h'.touch⟩
theorem EndAt.old (h : EndAt k D w n x) (ht : Fresh w w') (hD : ∀ b, b < w.heap.size -> D' b = D b) : EndAt k D' w' n x := by
 obtain ⟨cn, pc, un, sp, rp, A, ca, B, cb, h⟩ := h
 exact ⟨cn, pc, un, sp, rp, A, ca, B, cb, h.old ht hD⟩
theorem EndAt.other {k2 : Nat} (h : EndAt k2 D w n x) (ht : Touch (All D k) w w') (hD : ∀ b, b < w.heap.size -> D' b = D b) (hk : k2 + 8 <= k ∨ k + 8 <= k2) : EndAt k2 D' w' n x := by
 obtain ⟨cn, pc, un, sp, rp, A, ca, B, cb, h⟩ := h
 exact ⟨cn, pc, un, sp, rp, A, ca, B, cb, h.keep ht (fun b hb => by unfold All at hb; omega) hD⟩
def EndMid (k : Nat) (D : Nat -> Nat) (w : World) (n cn pc un : Nat) (x : En.X) (w' : World) : Prop := ∃ D' sp rp A ca B cb, EndIn k D' w' n cn pc un sp rp A ca B cb x ∧ Lab k D D' w.heap.size ∧ Touch (All D k) w w'
theorem EndIn.own {cn pc un : Nat} {sp rp : Option Nat} {A B : Option Addr} {ca cb : Nat} (h : EndIn k D w n cn pc un sp rp A ca B cb x) : k <= D n ∧ D n < k + 8 := by have := h.b.2; omega
theorem EndIn.ctlp {cn pc un : Nat} {sp rp : Option Nat} {A B A' : Option Addr} {ca cb ca' : Nat} {l : List Cn.Pd} {T : Nat -> Prop} (h : EndIn k D w n cn pc un sp rp A ca B cb x) (hs : PL k D' w' A' ca' l) (ht : Touch T w w') (hT : ∀ b, T b -> D b = k + 4) (hD : ∀ b, b < w.heap.size -> D' b = D b) :
  w'.cell? ⟨n, 15, none⟩ = some (.slice A x.ctl.length ca) ∧ w'.frozen? ⟨n, 15, none⟩ = false ∧ EndIn k D' (w'.setCell ⟨n, 15, none⟩ (.slice A' l.length ca')) n cn pc un sp rp A' ca' B cb { x with ctl := l } := by
 obtain ⟨h0, h1, h2, h3, -, h5, h6⟩ := h.turn ht hT hD
 have h0 := h0 (by omega)
 have hb := h0.1.set 15 (.slice A' l.length ca')
 have hu := Touch.set1 w' n 15 (.slice A' l.length ca')
 have hN : ∀ j, j ≠ 0 -> ∀ b, b = n -> D' b ≠ k + j := fun j hj b hb e => by subst hb; have := h0.2; omega
 exact ⟨h0.1.cell 15, h0.1.frozen 15, ⟨hb, h0.2⟩, (h1 (by omega)).keep hu (hN 1 (by omega)) (fun _ _ => rfl), (h2 (by omega)).keep hu (hN 2 (by omega)) (fun _ _ => rfl), (h3 (by omega)).keep hu (hN 3 (by omega)) (fun _ _ => rfl), hs.keep hu (hN 4 (by omega)) (fun _ _ => rfl), (h5 (by omega)).keep hu (hN 7 (by omega)) (fun _ _ => rfl), (h6 (by omega) (by omega)).keep hu (fun b hb => ⟨hN 5 (by omega) b hb, hN 6 (by omega) b hb⟩) (fun _ _ => rfl)⟩
end
end Go.Proofs.YtnenaemincfgpaaGreat
