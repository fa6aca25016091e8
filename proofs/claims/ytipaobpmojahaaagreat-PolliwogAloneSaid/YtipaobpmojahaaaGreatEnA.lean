/-
  node.Node: an end in memory, with or without an epoch. Each part lies in blocks of a number of its own: k the end, k + 1 its connection, k + 2 its timers, k + 3 the row of units, k + 4 what goes out first, k + 5 the sender, k + 6 the receiver, k + 7 what was left; k + 8 what was handed out · node.Node: ready, idle, over, report, again, credit. No conditions but where the end lies.
-/
import Derived.Test.YtipaobpmojahaaaGreatEnZk
import Derived.Test.YtipaobpmojahaaaGreatEnQ
import Derived.Test.YtipaobpmojahaaaGreatRPdu
import Derived.Test.YtipaobpmojahaaaGreatSnd
import Derived.Test.YtipaobpmojahaaaGreatRcv
import Derived.Test.YtipaobpmojahaaaGreatSndD
import Derived.RegionTactic
import Derived.StillTailTactics
import Derived.Deep.DeepCutAuto
import Derived.Deep.CutBlock
import Derived.Deep.RegionLaw
import Derived.Deep.RegionHeld3
namespace Go.Proofs.YtipaobpmojahaaaGreat
open Go.RowKit
set_option maxRecDepth 20000

/-- The numbers of the blocks: as they were, and v for what is new. -/
def lab (D : Nat → Nat) (h v : Nat) : Nat → Nat := fun b => if b < h then D b else v
/-- Another numbering says the same of what there was, and numbers what is new by k to k + 8. -/
def Lab (k : Nat) (D D' : Nat → Nat) (h : Nat) : Prop := (∀ b, b < h → D' b = D b) ∧ ∀ b, h ≤ b → k ≤ D' b ∧ D' b ≤ k + 8
theorem lab_lab (k : Nat) (D : Nat → Nat) (h i : Nat) (hi : i ≤ 8) : Lab k D (lab D h (k + i)) h := by
  refine ⟨fun b hb => if_pos hb, fun b hb => ?_⟩
  unfold lab
  rw [if_neg (by omega)]
  omega
theorem lab_new {D : Nat → Nat} {h v b : Nat} (hb : h ≤ b) : lab D h v b = v := if_neg (by omega)
theorem lab_old {D : Nat → Nat} {h v b : Nat} (hb : b < h) : lab D h v b = D b := if_pos hb
/-- What is touched of the blocks of one number. -/
def Of (D : Nat → Nat) (i : Nat) : Nat → Prop := fun b => D b = i
/-- What is touched of an end. -/
def All (D : Nat → Nat) (k : Nat) : Nat → Prop := fun b => k ≤ D b ∧ D b < k + 8

theorem SendAt.cutE {w : World} {p : Nat} {F : Nat → Prop} {st : Sd.S} (h : SendAt w p F st) : SendAt w p (fun x => F x ∧ x < w.heap.size) st := by
  obtain ⟨g, b, k, A, c, h1, hF⟩ := h.open_
  exact SendAt.mk' h1 ⟨⟨hF.p, h1.blk.lt⟩, ⟨hF.g, h1.ring.lt⟩, fun x hx => ⟨hF.b x hx, h1.ring.ltb x hx⟩, ⟨hF.k, h1.map.lt⟩, fun ad ha => ⟨hF.A ad ha, h1.ag.lt ad ha⟩⟩
namespace En
def ptr (p : Option Nat) : Value := .pointer (p.map fun g => ⟨g, 0, none⟩)
def X.cells (x : X) (cn pc un : Nat) (sp rp : Option Nat) (A : Option Addr) (ca : Nat) (B : Option Addr) (cb : Nat) : List Value :=
  x.c.cells ++ [.pointer (some ⟨cn, 0, none⟩), .pointer (some ⟨pc, 0, none⟩), ptr sp, ptr rp, .slice A x.ctl.length ca, .pointer (some ⟨un, 0, none⟩), .bool x.poll, .bool x.stat, .int .u32 x.asked, .bool x.lacks, .slice B x.left.length cb]
end En

section
variable {k : Nat} {D D' : Nat → Nat} {w w' : World}
def PC (k : Nat) (D : Nat → Nat) (w : World) (cn : Nat) (s : Cn.S) : Prop := ConnAt w cn s ∧ Cn.Ok s ∧ D cn = k + 1
def PP (k : Nat) (D : Nat → Nat) (w : World) (pc : Nat) (tm : List Int) (c : Nd.C) : Prop := Pk w pc tm c.cc c.poll c.keep c.silent c.idle ∧ D pc = k + 2
def PU (k : Nat) (D : Nat → Nat) (w : World) (un : Nat) (us : List Cn.Pd) (m : Nat) : Prop := ∃ b, RingPdu w un b m us ∧ D un = k + 3 ∧ ∀ g, b = some g → D g = k + 3
def PL (k : Nat) (D : Nat → Nat) (w : World) (A : Option Addr) (ca : Nat) (l : List Cn.Pd) : Prop := Sl pduE w A ca l ∧ ∀ ad, A = some ad → D ad.block = k + 4
def PF (k : Nat) (D : Nat → Nat) (w : World) (B : Option Addr) (cb : Nat) (l : List ByteArray) : Prop := Sl strE w B cb l ∧ ∀ ad, B = some ad → D ad.block = k + 7
def PS (k : Nat) (D : Nat → Nat) (w : World) (p : Nat) (s : Sf.S) : Prop := ∃ F, SendAt w p F (Sf.prog s) ∧ ∀ b, F b → D b = k + 5 ∧ b < w.heap.size
def PR (k : Nat) (D : Nat → Nat) (w : World) (p : Nat) (r : Rf.S) : Prop := ∃ F, RecvAt w p F (Rf.prog r) ∧ ∀ b, F b → D b = k + 6 ∧ b < w.heap.size
/-- The sender and the receiver, if they are there. -/
def PE (k : Nat) (D : Nat → Nat) (w : World) (sp rp : Option Nat) : Option (Sf.S × Rf.S) → Prop
  | none => sp = none ∧ rp = none
  | some e => ∃ p q, sp = some p ∧ rp = some q ∧ PS k D w p e.1 ∧ PR k D w q e.2

/-- Where the parts of an end lie. -/
structure EndIn (k : Nat) (D : Nat → Nat) (w : World) (n cn pc un : Nat) (sp rp : Option Nat) (A : Option Addr) (ca : Nat) (B : Option Addr) (cb : Nat) (x : En.X) : Prop where
  b : Blk w n 103 (x.cells cn pc un sp rp A ca B cb) ∧ D n = k
  c : PC k D w cn x.conn
  p : PP k D w pc x.tm x.c
  u : PU k D w un x.units x.c.units.toNat
  l : PL k D w A ca x.ctl
  f : PF k D w B cb x.left
  e : PE k D w sp rp x.ep

theorem PC.keep {cn : Nat} {s : Cn.S} {T : Nat → Prop} (h : PC k D w cn s) (ht : Touch T w w') (hT : ∀ b, T b → D b ≠ k + 1) (hD : ∀ b, b < w.heap.size → D' b = D b) : PC k D' w' cn s :=
  ⟨ht.blk h.1 (fun e => hT _ e h.2.2), h.2.1, (hD _ h.1.lt).trans h.2.2⟩
theorem PP.keep {pc : Nat} {tm : List Int} {c : Nd.C} {T : Nat → Prop} (h : PP k D w pc tm c) (ht : Touch T w w') (hT : ∀ b, T b → D b ≠ k + 2) (hD : ∀ b, b < w.heap.size → D' b = D b) : PP k D' w' pc tm c :=
  ⟨Bk.touch h.1 ht (fun e => hT _ e h.2), (hD _ h.1.2.2.lt).trans h.2⟩
theorem PU.keep {un : Nat} {us : List Cn.Pd} {m : Nat} {T : Nat → Prop} (h : PU k D w un us m) (ht : Touch T w w') (hT : ∀ b, T b → D b ≠ k + 3) (hD : ∀ b, b < w.heap.size → D' b = D b) : PU k D' w' un us m := by
  obtain ⟨b, h1, h2, h3⟩ := h
  exact ⟨b, h1.touch ht (fun e => hT _ e h2) (fun g hg e => hT _ e (h3 g hg)), (hD _ h1.lt).trans h2, fun g hg => (hD _ (h1.ltb g hg)).trans (h3 g hg)⟩
theorem PL.keep {A : Option Addr} {ca : Nat} {l : List Cn.Pd} {T : Nat → Prop} (h : PL k D w A ca l) (ht : Touch T w w') (hT : ∀ b, T b → D b ≠ k + 4) (hD : ∀ b, b < w.heap.size → D' b = D b) : PL k D' w' A ca l :=
  ⟨h.1.touch ht (fun ad ha e => hT _ e (h.2 ad ha)), fun ad ha => (hD _ (h.1.lt ad ha)).trans (h.2 ad ha)⟩
theorem PF.keep {A : Option Addr} {ca : Nat} {l : List ByteArray} {T : Nat → Prop} (h : PF k D w A ca l) (ht : Touch T w w') (hT : ∀ b, T b → D b ≠ k + 7) (hD : ∀ b, b < w.heap.size → D' b = D b) : PF k D' w' A ca l :=
  ⟨h.1.touch ht (fun ad ha e => hT _ e (h.2 ad ha)), fun ad ha => (hD _ (h.1.lt ad ha)).trans (h.2 ad ha)⟩
theorem PS.keep {p : Nat} {s : Sf.S} {T : Nat → Prop} (h : PS k D w p s) (ht : Touch T w w') (hT : ∀ b, T b → D b ≠ k + 5) (hD : ∀ b, b < w.heap.size → D' b = D b) : PS k D' w' p s := by
  obtain ⟨F, h1, h2⟩ := h
  exact ⟨F, h1.touch ht (fun b hb _ e => hT _ e (h2 b hb).1), fun b hb => ⟨(hD _ (h2 b hb).2).trans (h2 b hb).1, Nat.lt_of_lt_of_le (h2 b hb).2 ht.size⟩⟩
theorem PR.keep {p : Nat} {r : Rf.S} {T : Nat → Prop} (h : PR k D w p r) (ht : Touch T w w') (hT : ∀ b, T b → D b ≠ k + 6) (hD : ∀ b, b < w.heap.size → D' b = D b) : PR k D' w' p r := by
  obtain ⟨F, h1, h2⟩ := h
  exact ⟨F, h1.touch ht (fun b hb e => hT _ e (h2 b hb).1), fun b hb => ⟨(hD _ (h2 b hb).2).trans (h2 b hb).1, Nat.lt_of_lt_of_le (h2 b hb).2 ht.size⟩⟩
theorem PE.keep {sp rp : Option Nat} {e : Option (Sf.S × Rf.S)} {T : Nat → Prop} (h : PE k D w sp rp e) (ht : Touch T w w') (hT : ∀ b, T b → D b ≠ k + 5 ∧ D b ≠ k + 6) (hD : ∀ b, b < w.heap.size → D' b = D b) : PE k D' w' sp rp e := by
  cases e with
  | none => exact h
  | some e =>
    obtain ⟨p, q, h1, h2, h3, h4⟩ := h
    exact ⟨p, q, h1, h2, h3.keep ht (fun b hb => (hT b hb).1) hD, h4.keep ht (fun b hb => (hT b hb).2) hD⟩

variable {n cn pc un : Nat} {sp rp : Option Nat} {A B : Option Addr} {ca cb : Nat} {x : En.X}
/-- What touches no block of an end's leaves it. -/
theorem EndIn.keep {T : Nat → Prop} (h : EndIn k D w n cn pc un sp rp A ca B cb x) (ht : Touch T w w') (hT : ∀ b, T b → ¬ (k ≤ D b ∧ D b < k + 8)) (hD : ∀ b, b < w.heap.size → D' b = D b) : EndIn k D' w' n cn pc un sp rp A ca B cb x :=
  have hn : ∀ i, i < 8 → ∀ b, T b → D b ≠ k + i := fun i hi b hb e => hT b hb (by omega)
  ⟨⟨ht.blk h.b.1 (fun e => hn 0 (by omega) _ e h.b.2), (hD _ h.b.1.lt).trans h.b.2⟩, h.c.keep ht (hn 1 (by omega)) hD, h.p.keep ht (hn 2 (by omega)) hD, h.u.keep ht (hn 3 (by omega)) hD, h.l.keep ht (hn 4 (by omega)) hD, h.f.keep ht (hn 7 (by omega)) hD, h.e.keep ht (fun b hb => ⟨hn 5 (by omega) b hb, hn 6 (by omega) b hb⟩) hD⟩
theorem EndIn.old (h : EndIn k D w n cn pc un sp rp A ca B cb x) (ht : Fresh w w') (hD : ∀ b, b < w.heap.size → D' b = D b) : EndIn k D' w' n cn pc un sp rp A ca B cb x := h.keep ht (fun _ e => e.elim) hD
/-- A call that turns one part: the others are as they were. -/
theorem EndIn.turn {T : Nat → Prop} {i : Nat} (h : EndIn k D w n cn pc un sp rp A ca B cb x) (ht : Touch T w w') (hT : ∀ b, T b → D b = k + i) (hD : ∀ b, b < w.heap.size → D' b = D b) :
    (i ≠ 0 → Blk w' n 103 (x.cells cn pc un sp rp A ca B cb) ∧ D' n = k) ∧ (i ≠ 1 → PC k D' w' cn x.conn) ∧ (i ≠ 2 → PP k D' w' pc x.tm x.c) ∧ (i ≠ 3 → PU k D' w' un x.units x.c.units.toNat) ∧ (i ≠ 4 → PL k D' w' A ca x.ctl) ∧ (i ≠ 7 → PF k D' w' B cb x.left) ∧ (i ≠ 5 → i ≠ 6 → PE k D' w' sp rp x.ep) :=
  ⟨fun hi => ⟨ht.blk h.b.1 (fun e => by have := hT _ e; have := h.b.2; omega), (hD _ h.b.1.lt).trans h.b.2⟩, fun hi => h.c.keep ht (fun b hb => by have := hT _ hb; omega) hD, fun hi => h.p.keep ht (fun b hb => by have := hT _ hb; omega) hD, fun hi => h.u.keep ht (fun b hb => by have := hT _ hb; omega) hD, fun hi => h.l.keep ht (fun b hb => by have := hT _ hb; omega) hD, fun hi => h.f.keep ht (fun b hb => by have := hT _ hb; omega) hD, fun hi hj => h.e.keep ht (fun b hb => by have := hT _ hb; omega) hD⟩
theorem EndIn.conned {s : Cn.S} {T : Nat → Prop} (h : EndIn k D w n cn pc un sp rp A ca B cb x) (hc : ConnAt w' cn s) (ho : Cn.Ok s) (ht : Touch T w w') (hT : ∀ b, T b → D b = k + 1) (hD : ∀ b, b < w.heap.size → D' b = D b) : EndIn k D' w' n cn pc un sp rp A ca B cb { x with conn := s } := by
  obtain ⟨h0, -, h2, h3, h4, h5, h6⟩ := h.turn ht hT hD
  exact ⟨h0 (by omega), ⟨hc, ho, (hD _ h.c.1.lt).trans h.c.2.2⟩, h2 (by omega), h3 (by omega), h4 (by omega), h5 (by omega), h6 (by omega) (by omega)⟩
theorem EndIn.paced {tm : List Int} {T : Nat → Prop} (h : EndIn k D w n cn pc un sp rp A ca B cb x) (hp : Pk w' pc tm x.c.cc x.c.poll x.c.keep x.c.silent x.c.idle) (ht : Touch T w w') (hT : ∀ b, T b → D b = k + 2) (hD : ∀ b, b < w.heap.size → D' b = D b) : EndIn k D' w' n cn pc un sp rp A ca B cb { x with tm := tm } := by
  obtain ⟨h0, h1, -, h3, h4, h5, h6⟩ := h.turn ht hT hD
  exact ⟨h0 (by omega), h1 (by omega), ⟨hp, (hD _ h.p.1.2.2.lt).trans h.p.2⟩, h3 (by omega), h4 (by omega), h5 (by omega), h6 (by omega) (by omega)⟩
theorem EndIn.rowed {us : List Cn.Pd} {T : Nat → Prop} (h : EndIn k D w n cn pc un sp rp A ca B cb x) (hu : PU k D' w' un us x.c.units.toNat) (ht : Touch T w w') (hT : ∀ b, T b → D b = k + 3) (hD : ∀ b, b < w.heap.size → D' b = D b) : EndIn k D' w' n cn pc un sp rp A ca B cb { x with units := us } := by
  obtain ⟨h0, h1, h2, -, h4, h5, h6⟩ := h.turn ht hT hD
  exact ⟨h0 (by omega), h1 (by omega), h2 (by omega), hu, h4 (by omega), h5 (by omega), h6 (by omega) (by omega)⟩
theorem EndIn.sent {s s' : Sf.S} {r : Rf.S} {T : Nat → Prop} {p : Nat} (h : EndIn k D w n cn pc un sp rp A ca B cb x) (he : x.ep = some (s, r)) (hsp : sp = some p) (hs : PS k D' w' p s') (ht : Touch T w w') (hT : ∀ b, T b → D b = k + 5) (hD : ∀ b, b < w.heap.size → D' b = D b) : EndIn k D' w' n cn pc un sp rp A ca B cb { x with ep := some (s', r) } := by
  obtain ⟨h0, h1, h2, h3, h4, h5, -⟩ := h.turn ht hT hD
  have e := h.e
  rw [he] at e
  obtain ⟨p', q, e1, e2, -, e4⟩ := e
  exact ⟨h0 (by omega), h1 (by omega), h2 (by omega), h3 (by omega), h4 (by omega), h5 (by omega), p, q, hsp, e2, hs, e4.keep ht (fun b hb => by have := hT _ hb; omega) hD⟩
theorem EndIn.recvd {s : Sf.S} {r r' : Rf.S} {T : Nat → Prop} {q : Nat} (h : EndIn k D w n cn pc un sp rp A ca B cb x) (he : x.ep = some (s, r)) (hrp : rp = some q) (hr : PR k D' w' q r') (ht : Touch T w w') (hT : ∀ b, T b → D b = k + 6) (hD : ∀ b, b < w.heap.size → D' b = D b) : EndIn k D' w' n cn pc un sp rp A ca B cb { x with ep := some (s, r') } := by
  obtain ⟨h0, h1, h2, h3, h4, h5, -⟩ := h.turn ht hT hD
  have e := h.e
  rw [he] at e
  obtain ⟨p, q', e1, e2, e3, -⟩ := e
  exact ⟨h0 (by omega), h1 (by omega), h2 (by omega), h3 (by omega), h4 (by omega), h5 (by omega), p, q, e1, hrp, e3.keep ht (fun b hb => by have := hT _ hb; omega) hD, hr⟩
/-- A store into the end's own block: what else has turned is given. -/
theorem EndIn.put {x' : En.X} {sp' rp' : Option Nat} {A' B' : Option Addr} {ca' cb' : Nat} (h : EndIn k D w n cn pc un sp rp A ca B cb x) (i : Nat) (u : Value) (hc : (x.cells cn pc un sp rp A ca B cb).set i u = x'.cells cn pc un sp' rp' A' ca' B' cb')
    (h1 : x'.conn = x.conn) (h2 : x'.tm = x.tm ∧ x'.c = x.c) (h3 : x'.units = x.units) (hl : PL k D w A' ca' x'.ctl) (hf : PF k D w B' cb' x'.left) (he : PE k D w sp' rp' x'.ep) : EndIn k D (w.setCell ⟨n, i, none⟩ u) n cn pc un sp' rp' A' ca' B' cb' x' := by
  have hb := h.b.1.set i u
  rw [hc] at hb
  have ht := Touch.set1 w n i u
  have hT : ∀ j, j ≠ 0 → ∀ b, b = n → D b ≠ k + j := fun j hj b hb e => by subst hb; have := h.b.2; omega
  refine ⟨⟨hb, h.b.2⟩, ?_, ?_, ?_, hl.keep ht (hT 4 (by omega)) (fun _ _ => rfl), hf.keep ht (hT 7 (by omega)) (fun _ _ => rfl), he.keep ht (fun b hb => ⟨hT 5 (by omega) b hb, hT 6 (by omega) b hb⟩) (fun _ _ => rfl)⟩
  · rw [h1]; exact h.c.keep ht (hT 1 (by omega)) (fun _ _ => rfl)
  · rw [h2.1, h2.2]; exact h.p.keep ht (hT 2 (by omega)) (fun _ _ => rfl)
  · rw [h3, h2.2]; exact h.u.keep ht (hT 3 (by omega)) (fun _ _ => rfl)
end

/-- An end. -/
def EndAt (k : Nat) (D : Nat → Nat) (w : World) (n : Nat) (x : En.X) : Prop := ∃ cn pc un sp rp A ca B cb, EndIn k D w n cn pc un sp rp A ca B cb x
/-- What a call of an end's leaves: the end, as x; nothing else is touched. -/
structure EndTo (k : Nat) (D D' : Nat → Nat) (w w' : World) (n : Nat) (x : En.X) : Prop where
  at_ : EndAt k D' w' n x
  lab : Lab k D D' w.heap.size
  touch : Touch (All D k) w w'
section
variable {k : Nat} {D D' D2 : Nat → Nat} {w w' w2 : World} {n : Nat} {x y : En.X}
theorem Lab.refl (k : Nat) (D : Nat → Nat) (w : World) (hD : ∀ b, w.heap.size ≤ b → k ≤ D b ∧ D b ≤ k + 8) : Lab k D D w.heap.size := ⟨fun _ _ => rfl, hD⟩
theorem Lab.trans (h : Lab k D D' w.heap.size) (h' : Lab k D' D2 w'.heap.size) (hs : w.heap.size ≤ w'.heap.size) : Lab k D D2 w.heap.size :=
  ⟨fun b hb => (h'.1 b (by omega)).trans (h.1 b hb), fun b hb => by
    by_cases e : b < w'.heap.size
    · rw [h'.1 b e]; exact h.2 b hb
    · exact h'.2 b (by omega)⟩
theorem Touch.then (ht : Touch (All D k) w w') (hl : Lab k D D' w.heap.size) (h : Touch (All D' k) w' w2) : Touch (All D k) w w2 := ht.trans h fun b hb e => by
  unfold All at *
  rw [hl.1 b hb] at e
  exact e
theorem EndTo.then (h : EndTo k D D' w w' n x) (h' : EndTo k D' D2 w' w2 n y) : EndTo k D D2 w w2 n y :=
  ⟨h'.at_, h.lab.trans h'.lab h.touch.size, h.touch.then h.lab h'.touch⟩
theorem EndAt.old (h : EndAt k D w n x) (ht : Fresh w w') (hD : ∀ b, b < w.heap.size → D' b = D b) : EndAt k D' w' n x := by
  obtain ⟨cn, pc, un, sp, rp, A, ca, B, cb, h⟩ := h
  exact ⟨cn, pc, un, sp, rp, A, ca, B, cb, h.old ht hD⟩
/-- What an end is in the midst of a call: its parts may have come to lie elsewhere. -/
def EndMid (k : Nat) (D : Nat → Nat) (w : World) (n cn pc un : Nat) (x : En.X) (w' : World) : Prop := ∃ D' sp rp A ca B cb, EndIn k D' w' n cn pc un sp rp A ca B cb x ∧ Lab k D D' w.heap.size ∧ Touch (All D k) w w'
theorem EndIn.own {cn pc un : Nat} {sp rp : Option Nat} {A B : Option Addr} {ca cb : Nat} (h : EndIn k D w n cn pc un sp rp A ca B cb x) : k ≤ D n ∧ D n < k + 8 := by have := h.b.2; omega
/-- What goes out first has turned, and is stored. -/
theorem EndIn.ctlp {cn pc un : Nat} {sp rp : Option Nat} {A B A' : Option Addr} {ca cb ca' : Nat} {l : List Cn.Pd} {T : Nat → Prop} (h : EndIn k D w n cn pc un sp rp A ca B cb x) (hs : PL k D' w' A' ca' l) (ht : Touch T w w') (hT : ∀ b, T b → D b = k + 4) (hD : ∀ b, b < w.heap.size → D' b = D b) :
    w'.cell? ⟨n, 15, none⟩ = some (.slice A x.ctl.length ca) ∧ w'.frozen? ⟨n, 15, none⟩ = false ∧ EndIn k D' (w'.setCell ⟨n, 15, none⟩ (.slice A' l.length ca')) n cn pc un sp rp A' ca' B cb { x with ctl := l } := by
  obtain ⟨h0, h1, h2, h3, -, h5, h6⟩ := h.turn ht hT hD
  have h0 := h0 (by omega)
  have hb := h0.1.set 15 (.slice A' l.length ca')
  have hu := Touch.set1 w' n 15 (.slice A' l.length ca')
  have hN : ∀ j, j ≠ 0 → ∀ b, b = n → D' b ≠ k + j := fun j hj b hb e => by subst hb; have := h0.2; omega
  exact ⟨h0.1.cell 15, h0.1.frozen 15, ⟨hb, h0.2⟩, (h1 (by omega)).keep hu (hN 1 (by omega)) (fun _ _ => rfl), (h2 (by omega)).keep hu (hN 2 (by omega)) (fun _ _ => rfl), (h3 (by omega)).keep hu (hN 3 (by omega)) (fun _ _ => rfl), hs.keep hu (hN 4 (by omega)) (fun _ _ => rfl), (h5 (by omega)).keep hu (hN 7 (by omega)) (fun _ _ => rfl), (h6 (by omega) (by omega)).keep hu (fun b hb => ⟨hN 5 (by omega) b hb, hN 6 (by omega) b hb⟩) (fun _ _ => rfl)⟩
end
set_option maxRecDepth 20000

section
variable {k : Nat} {D D' : Nat → Nat} {w w' : World} {n cn pc un : Nat} {sp rp : Option Nat} {A B : Option Addr} {ca cb : Nat} {x : En.X}
theorem EndIn.ep_none (h : EndIn k D w n cn pc un sp rp A ca B cb x) (he : x.ep = none) : sp = none ∧ rp = none := by
  have := h.e
  rw [he] at this
  exact this
theorem EndIn.ep_some {e : Sf.S × Rf.S} (h : EndIn k D w n cn pc un sp rp A ca B cb x) (he : x.ep = some e) : ∃ p q, sp = some p ∧ rp = some q ∧ PS k D w p e.1 ∧ PR k D w q e.2 := by
  have := h.e
  rw [he] at this
  exact this
theorem nready_any (h : EndIn k D w n cn pc un sp rp A ca B cb x) :
    Calls Tryz.prog 36 #[.pointer (some ⟨n, 0, none⟩)] w fun e w' => e = .returned (.bool x.ep.isSome) ∧ w = w' := by
  cases he : x.ep with
  | none =>
    obtain ⟨rfl, rfl⟩ := h.ep_none he
    have c13 : w.cell? ⟨n, 13, none⟩ = some (.pointer none) := h.b.1.cell 13
    clear h he
    go_enter Tryz.func36, Tryz.ntmps36
    go_wp2
    go_ret
    exact ⟨rfl, rfl⟩
  | some e =>
    obtain ⟨p, q, rfl, rfl, -, -⟩ := h.ep_some he
    have c13 : w.cell? ⟨n, 13, none⟩ = some (.pointer (some ⟨p, 0, none⟩)) := h.b.1.cell 13
    clear h he
    go_enter Tryz.func36, Tryz.ntmps36
    go_wp2
    go_ret
    exact ⟨rfl, rfl⟩
/-- Of a sender that may be: what is kept by the program is as much as is kept. -/
theorem prog_idle {s : Sf.S} (hs : s.last.length = s.kept.length) : (decide ((Sf.prog s).q.length = 0) && decide ((Sf.prog s).m.length = 0)) = En.sIdle s := by
  unfold En.sIdle Sf.prog
  simp only
  rw [Sf.pm_len _ _ _ hs]
theorem nidle_any (h : EndIn k D w n cn pc un sp rp A ca B cb x) (hl : ∀ e, x.ep = some e → e.1.last.length = e.1.kept.length) :
    Calls Tryz.prog 42 #[.pointer (some ⟨n, 0, none⟩)] w fun e w' => e = .returned (.bool (En.idle x)) ∧ ∃ m, w' = w.drewN m := by
  have HRD := Lib.hid (nready_any h)
  cases he : x.ep with
  | none =>
    have hi : En.idle x = true := by unfold En.idle; rw [he]
    rw [he] at HRD
    rw [hi]
    clear h he hi
    go_enter Tryz.func42, Tryz.ntmps42
    go_wp2_with (go_at_call 36; (with_reducible refine HRD.out.mono ?_); rintro e w1 ⟨rfl, rfl⟩)
    go_ret
    exact ⟨rfl, 0, rfl⟩
  | some e =>
    obtain ⟨p, q, rfl, rfl, ⟨F, hs, -⟩, -⟩ := h.ep_some he
    have hi : En.idle x = En.sIdle e.1 := by unfold En.idle; rw [he]
    have HID := Lib.hid (sidle_any p F _ w hs)
    rw [prog_idle (hl e he)] at HID
    rw [he] at HRD
    rw [hi]
    have c13 : w.cell? ⟨n, 13, none⟩ = some (.pointer (some ⟨p, 0, none⟩)) := h.b.1.cell 13
    clear h he hi hs hl
    generalize En.sIdle e.1 = z at *
    go_enter Tryz.func42, Tryz.ntmps42
    go_wp2_with (first
      | (go_at_call 36; (with_reducible refine HRD.out.mono ?_); rintro e w1 ⟨rfl, rfl⟩)
      | (go_at_call 92; (with_reducible refine HID.out.mono ?_); rintro e w2 ⟨rfl, m, rfl⟩))
    go_ret
    exact ⟨rfl, m, rfl⟩
theorem nrep_any (c m : Int) (w : World) :
    Calls Tryz.prog 80 #[.int .u8 c, .int .i64 m] w fun e w' => ∃ A, e = .returned (.slice (some A) 1 1) ∧ Mine sigE w w' (some A) 1 [En.rep c m] := by
  go_enter Tryz.func80, Tryz.ntmps80
  go_wp2
  go_ret
  exact ⟨_, rfl, Mine.lit sigE w _ [En.rep c m] rfl 1 rfl (by decide)⟩
theorem nover_any (h : EndIn k D w n cn pc un sp rp A ca B cb x) :
    Calls Tryz.prog 104 #[.pointer (some ⟨n, 0, none⟩)] w fun e w' => e = .returned (.tuple #[]) ∧ EndIn k D w' n cn pc un sp rp A ca B cb (En.over x) ∧ Touch (· = n) w w' := by
  have c17 : w.cell? ⟨n, 17, none⟩ = some (.bool x.poll) := h.b.1.cell 17
  have f17 := h.b.1.frozen 17
  have c18 : w.cell? ⟨n, 18, none⟩ = some (.bool x.stat) := h.b.1.cell 18
  have f18 := h.b.1.frozen 18
  have H1 := h.put (x' := { x with poll := false }) 17 (.bool false) rfl rfl ⟨rfl, rfl⟩ rfl h.l h.f h.e
  have H2 := Lib.hid (H1.put (x' := En.over x) 18 (.bool false) rfl rfl ⟨rfl, rfl⟩ rfl H1.l H1.f H1.e)
  clear h H1
  go_enter Tryz.func104, Tryz.ntmps104
  go_wp2
  go_end0
  exact ⟨rfl, H2.out, ((Touch.refl (· = n) w).st rfl).st rfl⟩

/-- Of a sender that may be: credit is spent for the program as for the document. -/
theorem prog_lack {s : Sf.S} {lo hi : Int} (h : Sf.Ok s lo hi) : ((Sf.prog s).s == (Sf.prog s).ms) = (s.s == s.ms) := by
  have h1 := h.sms
  have h2 := h.msa
  have h3 := h.klen
  rw [Bool.eq_iff_iff, beq_iff_eq, beq_iff_eq]
  show s.s % 16777216 = s.ms % 16777216 ↔ _
  omega
/-- What a call that hands signals out leaves of them. -/
structure SigsTo (w w' : World) (A A' : Option Addr) (c' : Nat) (l : List Cn.Sig) : Prop where
  sl : Sl sigE w' A' c' l
  at_ : A'.map Addr.block = A.map Addr.block ∨ ∀ ad, A' = some ad → w.heap.size ≤ ad.block
def CreditPost (k : Nat) (D : Nat → Nat) (w : World) (n cn pc un : Nat) (sp rp : Option Nat) (A : Option Addr) (ca : Nat) (B : Option Addr) (cb : Nat) (Al : Option Addr) (y : En.X × List Cn.Sig) (e : Ending) (w' : World) : Prop :=
  ∃ A' c', e = .returned (.slice A' y.2.length c') ∧ SigsTo w w' Al A' c' y.2 ∧ EndIn k (lab D w.heap.size (k + 8)) w' n cn pc un sp rp A ca B cb y.1 ∧ Touch (fun b => b = n ∨ Al.map Addr.block = some b) w w'
set_option maxHeartbeats 4000000 in
theorem ncredit_any (h : EndIn k D w n cn pc un sp rp A ca B cb x) (hso : ∀ e, x.ep = some e → ∃ lo hi, Sf.Ok e.1 lo hi) (Al : Option Addr) (cl : Nat) (l : List Cn.Sig) (hs : Sl sigE w Al cl l) (hl : l.length ≤ 1000000) (hA : ∀ ad, Al = some ad → ¬ (k ≤ D ad.block ∧ D ad.block < k + 8)) :
    Calls Tryz.prog 32 #[.pointer (some ⟨n, 0, none⟩), .slice Al l.length cl] w (CreditPost k D w n cn pc un sp rp A ca B cb Al (En.credit x l)) := by
  obtain ⟨was, hwas⟩ : ∃ was, x.lacks = was := ⟨_, rfl⟩
  obtain ⟨now, hnow⟩ : ∃ now, En.lack x = now := ⟨_, rfl⟩
  have HRD := Lib.hid (nready_any h)
  have HR2 : Hid (∀ W, EndIn k D W n cn pc un sp rp A ca B cb { x with lacks := now } → Calls Tryz.prog 36 #[.pointer (some ⟨n, 0, none⟩)] W fun e w' => e = .returned (.bool x.ep.isSome) ∧ W = w') := fun W hW => by
    have r := nready_any hW
    exact r
  have c20 : ∀ m, (w.drewN m).cell? ⟨n, 20, none⟩ = some (.bool was) := fun m => by rw [← hwas]; exact (h.b.1.drewN m).cell 20
  have f20 := fun m => (h.b.1.drewN m).frozen 20
  have HNA : Hid (∀ ad, Al = some ad → ad.block ≠ n) := fun ad e e2 => hA ad e (by rw [e2]; have := h.b.2; omega)
  have HLA : Hid (∀ ad, Al = some ad → ¬ (k ≤ D ad.block ∧ D ad.block < k + 8)) := hA
  have HT2 : Hid (∀ m, Touch (· = n) w ((w.drewN m).setCell ⟨n, 20, none⟩ (.bool now))) := fun m => ((Touch.refl (· = n) w).drewN m).st rfl
  have HQ : Hid (∀ m, EndIn k D ((w.drewN m).setCell ⟨n, 20, none⟩ (.bool now)) n cn pc un sp rp A ca B cb { x with lacks := now }) := fun m =>
    have h0 := h.old ((Touch.refl _ w).drewN m) (fun _ _ => rfl)
    h0.put 20 (.bool now) rfl rfl ⟨rfl, rfl⟩ rfl h0.l h0.f h0.e
  have HSQ : Hid (∀ m, Sl sigE ((w.drewN m).setCell ⟨n, 20, none⟩ (.bool now)) Al cl l) := fun m => hs.touch (HT2.out m) (fun ad e => HNA.out ad e)
  have HCR : Hid (∀ rd L, x.ep.isSome = rd → (if now && !was then l ++ [En.rep 87 0] else if (was && !now) && rd then l ++ [En.rep 88 0] else l) = L → En.credit x l = ({ x with lacks := now }, L)) := fun rd L hr hL => by unfold En.credit En.ready; rw [hnow, hwas, hr, hL]
  have HEND : Hid (∀ (w2 w3 : World) (A3 : Option Addr) (c3 : Nat) (L : List Cn.Sig), Touch (· = n) w w2 → w2.heap.size = w.heap.size → EndIn k D w2 n cn pc un sp rp A ca B cb { x with lacks := now } → SigsTo w w3 Al A3 c3 L → Touch (fun b => Al.map Addr.block = some b) w2 w3 → En.credit x l = ({ x with lacks := now }, L) → CreditPost k D w n cn pc un sp rp A ca B cb Al (En.credit x l) (.returned (.slice A3 L.length c3)) w3) := fun w2 w3 A3 c3 L t2 hz hq h1 h2 h3 => by
    rw [h3]
    refine ⟨A3, c3, rfl, h1, (hq.old (Touch.refl _ _) (fun _ _ => rfl)).keep h2 (fun b hb e => ?_) (fun b hb => ?_), (t2.mono (fun _ _ e => .inl e)).trans h2 (fun _ _ e => .inr e)⟩
    · cases hAl : Al with
      | none => rw [hAl] at hb; cases hb
      | some ad => rw [hAl] at hb; injection hb with hb; exact HLA.out ad hAl (by rw [hb]; exact e)
    · exact lab_old (by omega)
  have HSZ : Hid (∀ m, ((w.drewN m).setCell ⟨n, 20, none⟩ (.bool now)).heap.size = w.heap.size) := fun m => by show _ = _; simp
  have CALLS : Hid (∀ (m : Nat) (v : Bool), x.ep.isSome = v → ∀ w2, w2 = (w.drewN m).setCell ⟨n, 20, none⟩ (.bool now) → Touch (· = n) w w2 ∧ w2.heap.size = w.heap.size ∧ EndIn k D w2 n cn pc un sp rp A ca B cb { x with lacks := now } ∧ Sl sigE w2 Al cl l ∧ w2.cell? ⟨n, 20, none⟩ = some (.bool now)) := fun m v _ w2 e => by
    subst e
    exact ⟨HT2.out m, HSZ.out m, HQ.out m, HSQ.out m, (HQ.out m).b.1.cell 20⟩
  cases he : x.ep with
  | none =>
    have hn : now = false := by rw [← hnow]; unfold En.lack; rw [he]
    subst hn
    rw [he] at HRD
    have HC3 : Hid (En.credit x l = ({ x with lacks := false }, l)) := HCR.out false l (by rw [he]; rfl) (by cases was <;> rfl)
    have a20 : w.cell? ⟨n, 20, none⟩ = some (.bool was) := c20 0
    have b20 : w.frozen? ⟨n, 20, none⟩ = false := f20 0
    obtain ⟨w2, hw2⟩ : ∃ w2, w2 = w.setCell ⟨n, 20, none⟩ (.bool false) := ⟨_, rfl⟩
    obtain ⟨t2, z2, q2, s2, e20⟩ := CALLS.out 0 false (by rw [he]; rfl) w2 hw2
    have R2 := HR2.out w2 q2
    rw [he] at R2
    have R2 := Lib.hid R2
    have T2 := Lib.hid t2
    have Z2 := Lib.hid z2
    have Q2 := Lib.hid q2
    have S2 := Lib.hid s2
    clear HCR he hnow hso c20 f20 h hs hwas hA CALLS HT2 HQ HSQ HSZ HR2 t2 z2 q2 s2
    cases was
    all_goals
      go_enter Tryz.func32, Tryz.ntmps32
      go_upto_block 0 with (go_at_call 36; (with_reducible refine HRD.out.mono ?_); rintro e w1 ⟨rfl, rfl⟩)
      rw [← hw2]
      clear hw2 a20 b20
      go_wp2_with (go_at_call 36; (with_reducible refine R2.out.mono ?_); rintro e w1 ⟨rfl, rfl⟩)
      go_ret
      exact HEND.out w2 w2 _ _ l T2.out Z2.out Q2.out ⟨S2.out, .inl rfl⟩ (Touch.refl _ _) HC3.out
  | some e =>
    obtain ⟨lo, hi, hso⟩ := hso e he
    obtain ⟨p, q, rfl, rfl, ⟨F, hF, -⟩, -⟩ := h.ep_some he
    have HLK := Lib.hid (slacks_any p F _ w hF)
    rw [prog_lack hso, show (Sf.prog e.1).q = e.1.wait from rfl, show (decide (0 < e.1.wait.length) && (e.1.s == e.1.ms)) = now by rw [← hnow]; unfold En.lack; rw [he]] at HLK
    have c13 : w.cell? ⟨n, 13, none⟩ = some (.pointer (some ⟨p, 0, none⟩)) := h.b.1.cell 13
    have a20 : w.cell? ⟨n, 20, none⟩ = some (.bool was) := c20 0
    have HA20 := Lib.hid c20
    have HF20 := Lib.hid f20
    rw [he] at HRD
    have HCT : Hid (∀ L, (if now && !was then l ++ [En.rep 87 0] else if (was && !now) && true then l ++ [En.rep 88 0] else l) = L → En.credit x l = ({ x with lacks := now }, L)) := fun L hL => HCR.out true L (by rw [he]; rfl) hL
    clear HCR
    have HR3 : Hid (∀ w2, EndIn k D w2 n cn pc un (some p) (some q) A ca B cb { x with lacks := now } → Calls Tryz.prog 36 #[.pointer (some ⟨n, 0, none⟩)] w2 fun e w' => e = .returned (.bool true) ∧ w2 = w') := fun w2 h => by
      have r := HR2.out w2 h
      rw [he] at r
      exact r
    clear he hnow hso hF c20 f20 h hs hwas hA HT2 HQ HSQ HSZ HR2
    go_enter Tryz.func32, Tryz.ntmps32
    go_upto_block 0 with (first
      | (go_at_call 36; (with_reducible refine HRD.out.mono ?_); rintro e w1 ⟨rfl, rfl⟩)
      | (go_at_call 79; (with_reducible refine HLK.out.mono ?_); rintro e w1 ⟨rfl, m, rfl⟩; have m20 := HA20.out m; have g20 := HF20.out m))
    obtain ⟨w2, hw2⟩ : ∃ w2, w2 = (w.drewN m).setCell ⟨n, 20, none⟩ (.bool now) := ⟨_, rfl⟩
    obtain ⟨t2, z2, q2, s2, e20⟩ := CALLS.out m _ rfl w2 hw2
    have R2 := Lib.hid (HR3.out w2 q2)
    have T2 := Lib.hid t2
    have Z2 := Lib.hid z2
    have Q2 := Lib.hid q2
    have S2 := Lib.hid s2
    rw [← hw2]
    clear hw2 m20 g20 HA20 HF20 a20 c13 HLK CALLS HR3 HRD t2 z2 q2 s2
    cases hb1 : now <;> cases hb2 : was <;> subst hb1 hb2
    · as_aux_lemma =>
      have HC3 : Hid (En.credit x l = ({ x with lacks := false }, l)) := HCT.out _ rfl
      clear HCT
      go_wp2_with (go_at_call 36; (with_reducible refine R2.out.mono ?_); rintro e w1 ⟨rfl, rfl⟩)
      go_ret
      exact HEND.out w2 w2 _ _ l T2.out Z2.out Q2.out ⟨S2.out, .inl rfl⟩ (Touch.refl _ _) HC3.out
    · as_aux_lemma =>
      have HC3 : Hid (En.credit x l = ({ x with lacks := false }, l ++ [En.rep 88 0])) := HCT.out _ rfl
      clear HCT
      go_wp2_with (first
        | (go_at_call 36; (with_reducible refine R2.out.mono ?_); rintro e w1 ⟨rfl, rfl⟩)
        | (go_at_call 80; (with_reducible refine (nrep_any 88 0 _).mono ?_); rintro e w3 ⟨A3, rfl, h3⟩)
        | (at_builtin
           refine app_sig rfl rfl (l := l) (l2 := [En.rep 88 0]) rfl rfl (S2.out.touch h3.fresh (fun _ _ e => e)) h3.sl.rd (by simp; omega) ?_
           intro A4 c4 L4 w4 hL4 s4 t4 a4))
      go_ret
      rw [hL4.out] at s4 ⊢
      refine HEND.out w2 w4 A4 c4 _ T2.out Z2.out Q2.out ⟨s4, a4.imp id (fun e ad e2 => ?_)⟩ ((h3.fresh.mono (fun _ _ e => e.elim)).trans t4 (fun _ _ e => e)) HC3.out
      rw [e2] at e
      injection e with e
      have := h3.fresh.size
      have := Z2.out
      omega
    · as_aux_lemma =>
      have HC3 : Hid (En.credit x l = ({ x with lacks := true }, l ++ [En.rep 87 0])) := HCT.out _ rfl
      clear HCT
      go_wp2_with (first
        | (go_at_call 36; (with_reducible refine R2.out.mono ?_); rintro e w1 ⟨rfl, rfl⟩)
        | (go_at_call 80; (with_reducible refine (nrep_any 87 0 _).mono ?_); rintro e w3 ⟨A3, rfl, h3⟩)
        | (at_builtin
           refine app_sig rfl rfl (l := l) (l2 := [En.rep 87 0]) rfl rfl (S2.out.touch h3.fresh (fun _ _ e => e)) h3.sl.rd (by simp; omega) ?_
           intro A4 c4 L4 w4 hL4 s4 t4 a4))
      go_ret
      rw [hL4.out] at s4 ⊢
      refine HEND.out w2 w4 A4 c4 _ T2.out Z2.out Q2.out ⟨s4, a4.imp id (fun e ad e2 => ?_)⟩ ((h3.fresh.mono (fun _ _ e => e.elim)).trans t4 (fun _ _ e => e)) HC3.out
      rw [e2] at e
      injection e with e
      have := h3.fresh.size
      have := Z2.out
      omega
    · as_aux_lemma =>
      have HC3 : Hid (En.credit x l = ({ x with lacks := true }, l)) := HCT.out _ rfl
      clear HCT
      go_wp2_with (go_at_call 36; (with_reducible refine R2.out.mono ?_); rintro e w1 ⟨rfl, rfl⟩)
      go_ret
      exact HEND.out w2 w2 _ _ l T2.out Z2.out Q2.out ⟨S2.out, .inl rfl⟩ (Touch.refl _ _) HC3.out
end
end Go.Proofs.YtipaobpmojahaaaGreat
