/-
  node.Node: an end in memory, without an epoch.
-/
import Derived.Test.YtimhjdepngmejaaGreatNdC
import Derived.Test.YtimhjdepngmejaaGreatRPdu
import Derived.Test.YtimhjdepngmejaaGreatCnW
import Derived.Test.YtimhjdepngmejaaGreatCloP
namespace Go.Proofs.YtimhjdepngmejaaGreat
open Go.RowKit
set_option maxRecDepth 20000

namespace Nd
/-- An end without an epoch: its config, its connection, its timers, what goes out, what was left. -/
structure S where
  c : C
  conn : Cn.S
  tm : List Int
  ctl : List Cn.Pd
  units : List Cn.Pd
  left : List ByteArray
  poll : Bool
  stat : Bool
  asked : Int
  lacks : Bool
def S.cells (st : S) (cn pc un : Nat) (A : Option Addr) (ca : Nat) (B : Option Addr) (cl : Nat) : List Value :=
  st.c.cells ++ [.pointer (some ⟨cn, 0, none⟩), .pointer (some ⟨pc, 0, none⟩), .pointer none, .pointer none, .slice A st.ctl.length ca, .pointer (some ⟨un, 0, none⟩), .bool st.poll, .bool st.stat, .int .u32 st.asked, .bool st.lacks, .slice B st.left.length cl]
end Nd

/-- Where the parts of an end lie. -/
structure NodeIn (w : World) (n cn pc un : Nat) (bu : Option Nat) (A : Option Addr) (ca : Nat) (B : Option Addr) (cl : Nat) (st : Nd.S) : Prop where
  blk : Blk w n 98 (st.cells cn pc un A ca B cl)
  conn : ConnAt w cn st.conn
  cok : Cn.Ok st.conn
  pace : Pk w pc st.tm st.c.cc st.c.poll st.c.keep st.c.silent st.c.idle
  units : RingPdu w un bu st.c.units.toNat st.units
  ctl : Sl pduE w A ca st.ctl
  left : Sl strE w B cl st.left
  ap : ∀ ad k, A = some ad → bu = some k → ad.block ≠ k

/-- An end of the law's own: in memory that was not there in W0. -/
structure NodeAt (W0 w : World) (n : Nat) (st : Nd.S) : Prop where
  fresh : Fresh W0 w
  at_ : ∃ cn pc un bu A ca B cl, NodeIn w n cn pc un bu A ca B cl st ∧ W0.heap.size ≤ n ∧ W0.heap.size ≤ cn ∧ W0.heap.size ≤ pc ∧ W0.heap.size ≤ un ∧ (∀ k, bu = some k → W0.heap.size ≤ k) ∧ (∀ ad, A = some ad → W0.heap.size ≤ ad.block) ∧ ∀ ad, B = some ad → W0.heap.size ≤ ad.block

section
variable {W0 w w' : World} {n cn pc un : Nat} {bu : Option Nat} {A B : Option Addr} {ca cl : Nat} {st : Nd.S}
theorem NodeIn.touch {T : Nat → Prop} (h : NodeIn w n cn pc un bu A ca B cl st) (ht : Touch T w w') (h1 : ¬ T n) (h2 : ¬ T cn) (h3 : ¬ T pc) (h4 : ¬ T un) (h5 : ∀ k, bu = some k → ¬ T k) (h6 : ∀ ad, A = some ad → ¬ T ad.block) (h7 : ∀ ad, B = some ad → ¬ T ad.block) : NodeIn w' n cn pc un bu A ca B cl st :=
  ⟨ht.blk h.blk h1, ht.blk h.conn h2, h.cok, h.pace.touch ht h3, h.units.touch ht h4 h5, h.ctl.touch ht h6, h.left.touch ht h7, h.ap⟩
theorem NodeIn.old (h : NodeIn w n cn pc un bu A ca B cl st) (ht : Fresh w w') : NodeIn w' n cn pc un bu A ca B cl st := h.touch ht (fun e => e) (fun e => e) (fun e => e) (fun e => e) (fun _ _ e => e) (fun _ _ e => e) (fun _ _ e => e)
theorem NodeAt.old (h : NodeAt W0 w n st) (ht : Fresh w w') : NodeAt W0 w' n st := by
  obtain ⟨cn, pc, un, bu, A, ca, B, cl, h1, h2⟩ := h.at_
  exact ⟨h.fresh.trans ht (fun _ _ e => e), cn, pc, un, bu, A, ca, B, cl, h1.old ht, h2⟩
end

/-- What a row of units is beside an end. -/
theorem RingPdu.ne_ {w : World} {g : Nat} {b : Option Nat} {most : Nat} {q : List Cn.Pd} (h : RingPdu w g b most q) {n : Nat} {t : TypeId} {cs : List Value} (hb : Blk w n t cs) (h1 : 136 ≠ t) (h2 : 67 ≠ t) : g ≠ n ∧ ∀ k, b = some k → k ≠ n := by
  obtain ⟨A', c', a', buf, b1, b2, b3, _⟩ := h
  refine ⟨b1.ne_ hb h1, fun k hk e => ?_⟩
  subst b3
  cases A' with
  | none => cases hk
  | some ad =>
    injection hk with hk
    exact b2.blk_ne hb h2 ad rfl (hk.trans e)
section
variable {w : World} {n cn pc un : Nat} {bu : Option Nat} {A B A' B' : Option Addr} {ca cl ca' cl' : Nat} {st st' : Nd.S}
/-- A store into one of an end's cells. -/
theorem NodeIn.st1 (h : NodeIn w n cn pc un bu A ca B cl st) (i : Nat) (u : Value) (he : (st.cells cn pc un A ca B cl).set i u = st'.cells cn pc un A' ca' B' cl') (h1 : st'.conn = st.conn) (h2 : st'.tm = st.tm) (h3 : st'.c = st.c) (h4 : st'.units = st.units) (hs : Sl pduE w A' ca' st'.ctl) (hl : Sl strE w B' cl' st'.left) (hap : ∀ ad k, A' = some ad → bu = some k → ad.block ≠ k) :
    NodeIn (w.setCell ⟨n, i, none⟩ u) n cn pc un bu A' ca' B' cl' st' := by
  have hb := h.blk.set i u
  rw [he] at hb
  have ht := Touch.set1 w n i u
  have hu := h.units.ne_ h.blk (by decide) (by decide)
  refine ⟨hb, ?_, ?_, ?_, ?_, hs.touch ht (hs.blk_ne h.blk (by decide)), hl.touch ht (hl.blk_ne h.blk (by decide)), hap⟩
  · rw [h1]; exact ht.blk h.conn (Blk.ne_ h.conn h.blk (by decide))
  · rw [h1]; exact h.cok
  · rw [h2, h3]; exact h.pace.touch ht (Blk.ne_ h.pace.2.2 h.blk (by decide))
  · rw [h3, h4]; exact h.units.touch ht hu.1 hu.2
/-- A call that turns the pace alone. -/
theorem NodeIn.paced {w' : World} {l : List Int} (h : NodeIn w n cn pc un bu A ca B cl st) (hp : Pk w' pc l st.c.cc st.c.poll st.c.keep st.c.silent st.c.idle) (ht : Touch (· = pc) w w') : NodeIn w' n cn pc un bu A ca B cl { st with tm := l } := by
  have hu := h.units.ne_ h.pace.2.2 (by decide) (by decide)
  exact ⟨ht.blk h.blk (Blk.ne_ h.blk h.pace.2.2 (by decide)), ht.blk h.conn (Blk.ne_ h.conn h.pace.2.2 (by decide)), h.cok, hp, h.units.touch ht hu.1 hu.2, h.ctl.touch ht (h.ctl.blk_ne h.pace.2.2 (by decide)), h.left.touch ht (h.left.blk_ne h.pace.2.2 (by decide)), h.ap⟩
/-- A call that turns the connection alone. -/
theorem NodeIn.conned {w' : World} {s : Cn.S} (h : NodeIn w n cn pc un bu A ca B cl st) (hc : ConnAt w' cn s) (ho : Cn.Ok s) (ht : Touch (· = cn) w w') : NodeIn w' n cn pc un bu A ca B cl { st with conn := s } := by
  have hu := h.units.ne_ h.conn (by decide) (by decide)
  exact ⟨ht.blk h.blk (Blk.ne_ h.blk h.conn (by decide)), hc, ho, h.pace.touch ht (Blk.ne_ h.pace.2.2 h.conn (by decide)), h.units.touch ht hu.1 hu.2, h.ctl.touch ht (h.ctl.blk_ne h.conn (by decide)), h.left.touch ht (h.left.blk_ne h.conn (by decide)), h.ap⟩
/-- A call that turns a block of another kind alone. -/
theorem NodeIn.far {w' : World} {b : Nat} {t : TypeId} {cs : List Value} (h : NodeIn w n cn pc un bu A ca B cl st) (hb : Blk w b t cs) (ht : Touch (· = b) w w') (t1 : 98 ≠ t) (t2 : 134 ≠ t) (t3 : 132 ≠ t) (t4 : 136 ≠ t) (t5 : 67 ≠ t) (t6 : strE.e ≠ t) : NodeIn w' n cn pc un bu A ca B cl st := by
  have hu := h.units.ne_ hb t4 t5
  exact h.touch ht (h.blk.ne_ hb t1) (Blk.ne_ h.conn hb t2) (Blk.ne_ h.pace.2.2 hb t3) hu.1 hu.2 (h.ctl.blk_ne hb t5) (h.left.blk_ne hb t6)
end
end Go.Proofs.YtimhjdepngmejaaGreat
