/-
  conn.Conn and its act: what they are in memory · slices.Clone of units · ring.Ring of units: New, Len, and a row of which nothing is taken. No conditions.
-/
import Derived.Test.YtipaobpmojahaaaGreatEvD
import Derived.Test.YtipaobpmojahaaaGreatRow2
import Derived.Lib.SliceRun
import Derived.RegionTactic
import Derived.ChangeAlike
import Derived.Test.YtipaobpmojahaaaGreatSpanP
import Derived.Deep.QuietTactic
import Derived.BigQuiet
set_option maxHeartbeats 1000000
namespace Go.Proofs.YtipaobpmojahaaaGreat
open Go.RowKit

def sigE : El Cn.Sig := { e := 61, size := 5, bytes := 40, zero := .agg #[.int .i64 0, .string ByteArray.empty, .bool false, .int .u8 0, .int .i64 0], zel := ⟨0, ByteArray.empty, false, 0, 0⟩, enc := fun s => [.int .i64 s.kind, .string s.data, .bool s.self, .int .u8 s.code, .int .i64 s.n], len := fun _ => rfl, one := by simp [Value.oneCell'], pos := by decide, zsize := rfl, zenc := rfl }
theorem Tryz.infoSig : (Tryz.prog.info? 61).map (fun i => (i.zero, i.size, i.bytes)) = some (some (.agg #[.int .i64 0, .string ByteArray.empty, .bool false, .int .u8 0, .int .i64 0]), 5, 40) := by kernel_rfl
def sigV (s : Cn.Sig) : Value := .agg #[.int .i64 s.kind, .string s.data, .bool s.self, .int .u8 s.code, .int .i64 s.n]
def pduE : El Cn.Pd := { e := 58, size := 8, bytes := 80, zero := .agg #[.int .i64 0, .int .i64 0, .int .u32 0, .int .u32 0, .int .u32 0, .slice none 0 0, .bool false, .string ByteArray.empty], zel := ⟨0, 0, 0, 0, 0, none, 0, 0, false, ByteArray.empty⟩, enc := fun s => [.int .i64 s.kind, .int .i64 s.sq, .int .u32 s.n, .int .u32 s.ps, .int .u32 s.mr, .slice s.lA s.ln s.lc, .bool s.self, .string s.data], len := fun _ => rfl, one := by simp [Value.oneCell'], pos := by decide, zsize := rfl, zenc := rfl }
theorem Tryz.infoPdu : (Tryz.prog.info? 58).map (fun i => (i.zero, i.size, i.bytes)) = some (some (.agg #[.int .i64 0, .int .i64 0, .int .u32 0, .int .u32 0, .int .u32 0, .slice none 0 0, .bool false, .string ByteArray.empty]), 8, 80) := by kernel_rfl
def pduV (s : Cn.Pd) : Value := .agg #[.int .i64 s.kind, .int .i64 s.sq, .int .u32 s.n, .int .u32 s.ps, .int .u32 s.mr, .slice s.lA s.ln s.lc, .bool s.self, .string s.data]

theorem app_sig {ops : Array Oper} {rest : List Oper} {o : Oper} {a : Act} {Q : Exit -> Act -> World -> Prop} {w : World} (hgd : o.guard = none) {s x : Operand}
  (ho : o.op = .call { callee := .builtin .append, args := #[s, x], argTypes := #[48, 48] })
  {A A2 : Option Addr} {c c2 : Nat} {l l2 : List Cn.Sig} (es : a.eval s = .slice A l.length c) (ex : a.eval x = .slice A2 l2.length c2)
  (h : Sl sigE w A c l) (h2 : Rd sigE w A2 c2 l2) (hm : l.length + l2.length <= 1000000000)
  (hK : ∀ A' c' L w', Hid (L = l ++ l2) -> Sl sigE w' A' c' L -> Touch (fun k => A.map Addr.block = some k) w w' -> (A'.map Addr.block = A.map Addr.block ∨ A'.map Addr.block = some w.heap.size) →
   wpList Tryz.prog ops Q rest (a.put o.dst (.slice A' L.length c')) w') : wpList Tryz.prog ops Q (o :: rest) a w := by
 obtain ⟨i0, hi, hz0, hz1, hz2⟩ := info_parts Tryz.infoSig
 exact wpList_app sigE hgd ho i0 Tryz.underlying48 hi hz0 hz1 hz2 es ex h h2 (by simp only [maxLen]; omega) (by show _ * 40 <= _; omega) hK
theorem app_pdu {ops : Array Oper} {rest : List Oper} {o : Oper} {a : Act} {Q : Exit -> Act -> World -> Prop} {w : World} (hgd : o.guard = none) {s x : Operand}
  (ho : o.op = .call { callee := .builtin .append, args := #[s, x], argTypes := #[46, 46] })
  {A A2 : Option Addr} {c c2 : Nat} {l l2 : List Cn.Pd} (es : a.eval s = .slice A l.length c) (ex : a.eval x = .slice A2 l2.length c2)
  (h : Sl pduE w A c l) (h2 : Rd pduE w A2 c2 l2) (hm : l.length + l2.length <= 1000000000)
  (hK : ∀ A' c' L w', Hid (L = l ++ l2) -> Sl pduE w' A' c' L -> Touch (fun k => A.map Addr.block = some k) w w' -> (A'.map Addr.block = A.map Addr.block ∨ A'.map Addr.block = some w.heap.size) →
   wpList Tryz.prog ops Q rest (a.put o.dst (.slice A' L.length c')) w') : wpList Tryz.prog ops Q (o :: rest) a w := by
 obtain ⟨i0, hi, hz0, hz1, hz2⟩ := info_parts Tryz.infoPdu
 exact wpList_app pduE hgd ho i0 Tryz.underlying46 hi hz0 hz1 hz2 es ex h h2 (by simp only [maxLen]; omega) (by show _ * 80 <= _; omega) hK

theorem stp_sig {ops : Array Oper} {o : Oper} {a : Act} {K : Act -> World -> Prop} {Q : Exit -> Act -> World -> Prop} {F : Prop} {w : World} (hgd : o.guard = none) {s x : Operand}
  (ho : o.op = .call { callee := .builtin .append, args := #[s, x], argTypes := #[48, 48] })
  {A A2 : Option Addr} {c c2 : Nat} {l l2 : List Cn.Sig} (es : a.eval s = .slice A l.length c) (ex : a.eval x = .slice A2 l2.length c2)
  (h : Sl sigE w A c l) (h2 : Rd sigE w A2 c2 l2) (hm : l.length + l2.length <= 1000000000)
  (hK : ∀ A' c' L w', Hid (L = l ++ l2) -> Sl sigE w' A' c' L -> Touch (fun k => A.map Addr.block = some k) w w' -> (A'.map Addr.block = A.map Addr.block ∨ A'.map Addr.block = some w.heap.size) →
   K (a.put o.dst (.slice A' L.length c')) w') : if Region.wanted o (yielded ops a.tmps) = true then Oper.wp Tryz.prog o a w K Q else F := by
 obtain ⟨i0, hi, hz0, hz1, hz2⟩ := info_parts Tryz.infoSig
 exact step_app sigE hgd ho i0 Tryz.underlying48 hi hz0 hz1 hz2 es ex h h2 (by simp only [maxLen]; omega) (by show _ * 40 <= _; omega) hK
theorem stp_pdu {ops : Array Oper} {o : Oper} {a : Act} {K : Act -> World -> Prop} {Q : Exit -> Act -> World -> Prop} {F : Prop} {w : World} (hgd : o.guard = none) {s x : Operand}
  (ho : o.op = .call { callee := .builtin .append, args := #[s, x], argTypes := #[46, 46] })
  {A A2 : Option Addr} {c c2 : Nat} {l l2 : List Cn.Pd} (es : a.eval s = .slice A l.length c) (ex : a.eval x = .slice A2 l2.length c2)
  (h : Sl pduE w A c l) (h2 : Rd pduE w A2 c2 l2) (hm : l.length + l2.length <= 1000000000)
  (hK : ∀ A' c' L w', Hid (L = l ++ l2) -> Sl pduE w' A' c' L -> Touch (fun k => A.map Addr.block = some k) w w' -> (A'.map Addr.block = A.map Addr.block ∨ A'.map Addr.block = some w.heap.size) →
   K (a.put o.dst (.slice A' L.length c')) w') : if Region.wanted o (yielded ops a.tmps) = true then Oper.wp Tryz.prog o a w K Q else F := by
 obtain ⟨i0, hi, hz0, hz1, hz2⟩ := info_parts Tryz.infoPdu
 exact step_app pduE hgd ho i0 Tryz.underlying46 hi hz0 hz1 hz2 es ex h h2 (by simp only [maxLen]; omega) (by show _ * 80 <= _; omega) hK

def connCells (s : Cn.S) : List Value := [.int .i64 s.most, .int .u32 s.credit, .int .i64 s.state, .int .i64 s.sq, .int .i64 s.peer, .int .i64 s.cc, .int .u32 s.ms, .string s.data]
def ConnAt (w : World) (c : Nat) (s : Cn.S) : Prop := Blk w c 161 (connCells s)

structure ActAt (K : Nat -> Prop) (n : Nat) (w : World) (a c : Nat) (x : Cn.SR) (A1 : Option Addr) (c1 : Nat) (A2 : Option Addr) (c2 : Nat) : Prop where
 lim : ∀ k, K k -> k < w.heap.size
 nc : ¬ K c
 na : ¬ K a
 blk : Blk w a 204 [.pointer (some ⟨c, 0, none⟩), .slice A1 x.2.sigs.length c1, .slice A2 x.2.units.length c2, .bool x.2.begins, .bool x.2.ends, .int .u32 x.2.ms, .int .i64 x.2.timer]
 conn : ConnAt w c x.1
 sigs : Sl sigE w A1 c1 x.2.sigs
 units : Sl pduE w A2 c2 x.2.units
 b1 : ∀ ad, A1 = some ad -> ¬ K ad.block
 b2 : ∀ ad, A2 = some ad -> ¬ K ad.block
 few : Cn.Few n x
 ok : Cn.Ok x.1

def InAct (K : Nat -> Prop) (n : Nat) (w : World) (a c : Nat) (x : Cn.SR) : Prop := ∃ A1 c1 A2 c2, ActAt K n w a c x A1 c1 A2 c2

def Kept (K : Nat -> Prop) (W w : World) (k : Nat) : Prop := K k ∨ W.heap.size <= k ∧ k < w.heap.size

def OfAct (K : Nat -> Prop) (k : Nat) : Prop := ¬ K k

section
variable {K : Nat -> Prop} {n m : Nat} {w w' : World} {a c : Nat} {x y : Cn.SR} {A1 A2 : Option Addr} {c1 c2 : Nat}
theorem ActAt.ne (h : ActAt K n w a c x A1 c1 A2 c2) : c ≠ a := Blk.ne_ h.conn h.blk (by decide)
theorem ActAt.n1 (h : ActAt K n w a c x A1 c1 A2 c2) : ∀ ad, A1 = some ad -> ad.block ≠ a ∧ ad.block ≠ c := fun ad e => ⟨h.sigs.blk_ne h.blk (by decide) ad e, h.sigs.blk_ne h.conn (by decide) ad e⟩
theorem ActAt.n2 (h : ActAt K n w a c x A1 c1 A2 c2) : ∀ ad, A2 = some ad -> ad.block ≠ a ∧ ad.block ≠ c := fun ad e => ⟨h.units.blk_ne h.blk (by decide) ad e, h.units.blk_ne h.conn (by decide) ad e⟩
theorem ActAt.touch {T : Nat -> Prop} (h : ActAt K n w a c x A1 c1 A2 c2) (ht : Touch T w w') (ha : ¬ T a) (hc : ¬ T c) (h1 : ∀ ad, A1 = some ad -> ¬ T ad.block) (h2 : ∀ ad, A2 = some ad -> ¬ T ad.block) : ActAt K n w' a c x A1 c1 A2 c2 :=
 ⟨fun k hk => Nat.lt_of_lt_of_le (h.lim k hk) ht.size, h.nc, h.na, ht.blk h.blk ha, ht.blk h.conn hc, h.sigs.touch ht h1, h.units.touch ht h2, h.b1, h.b2, h.few, h.ok⟩
theorem ActAt.old (h : ActAt K n w a c x A1 c1 A2 c2) (ht : Fresh w w') : ActAt K n w' a c x A1 c1 A2 c2 := h.touch ht (fun h => h) (fun h => h) (fun _ _ h => h) (fun _ _ h => h)
theorem ActAt.wide (h : ActAt K n w a c x A1 c1 A2 c2) (hm : n <= m) : ActAt K m w a c x A1 c1 A2 c2 :=
 ⟨h.lim, h.nc, h.na, h.blk, h.conn, h.sigs, h.units, h.b1, h.b2, ⟨Nat.le_trans h.few.1 hm, Nat.le_trans h.few.2 hm⟩, h.ok⟩
theorem ActAt.conn1 {s : Cn.S} (h : ActAt K n w a c x A1 c1 A2 c2) (i : Nat) (u : Value) (hc : (connCells x.1).set i u = connCells s) (hok : Cn.Ok s) : ActAt K n (w.setCell ⟨c, i, none⟩ u) a c (s, x.2) A1 c1 A2 c2 :=
 ⟨fun k hk => by have := h.lim k hk; simpa using this, h.nc, h.na, h.blk.far (fun e => h.ne e.symm) _, by have := h.conn.set i u; unfold ConnAt; rw [<- hc]; exact this, h.sigs.setCell (p := ⟨c, i, none⟩) (fun ad e => (h.n1 ad e).2) _, h.units.setCell (p := ⟨c, i, none⟩) (fun ad e => (h.n2 ad e).2) _, h.b1, h.b2, h.few, hok⟩
theorem ActAt.act1 {r : Cn.R} (h : ActAt K n w a c x A1 c1 A2 c2) (i : Nat) (u : Value)
  (hc : [Value.pointer (some ⟨c, 0, none⟩), .slice A1 x.2.sigs.length c1, .slice A2 x.2.units.length c2, .bool x.2.begins, .bool x.2.ends, .int .u32 x.2.ms, .int .i64 x.2.timer].set i u = [.pointer (some ⟨c, 0, none⟩), .slice A1 r.sigs.length c1, .slice A2 r.units.length c2, .bool r.begins, .bool r.ends, .int .u32 r.ms, .int .i64 r.timer])
  (h1 : r.sigs = x.2.sigs) (h2 : r.units = x.2.units) : ActAt K n (w.setCell ⟨a, i, none⟩ u) a c (x.1, r) A1 c1 A2 c2 := by
 refine ⟨fun k hk => by have := h.lim k hk; simpa using this, h.nc, h.na, hc ▸ h.blk.set i u, h.conn.far (by exact h.ne) _, ?_, ?_, h.b1, h.b2, ?_, h.ok⟩
 ·simp only [h1]; exact h.sigs.setCell (p := ⟨a, i, none⟩) (fun ad e => (h.n1 ad e).1) _
 ·simp only [h2]; exact h.units.setCell (p := ⟨a, i, none⟩) (fun ad e => (h.n2 ad e).1) _
 ·unfold Cn.Few; simp only [h1, h2]; exact h.few
theorem ActAt.sigs_ne (h : ActAt K n w a c x A1 c1 A2 c2) : ∀ ad, A1 = some ad -> ∀ ad', A2 = some ad' -> ad.block ≠ ad'.block := fun ad e ad' e' => by
 obtain ⟨_, cs, hb, _⟩ := h.units.2.2.2 ad' e'
 exact h.sigs.blk_ne hb (by decide) ad e
theorem ActAt.told {A' : Option Addr} {c' : Nat} {L : List Cn.Sig} {s : Cn.Sig} {W : World} (h : ActAt K n w a c x A1 c1 A2 c2) (ht0 : Fresh w W) (hL : L = x.2.sigs ++ [s]) (hs : Sl sigE w' A' c' L) (ht : Touch (fun k => A1.map Addr.block = some k) W w') (hA : A'.map Addr.block = A1.map Addr.block ∨ A'.map Addr.block = some W.heap.size) :
  ActAt K (n + 1) (w'.setCell ⟨a, 1, none⟩ (.slice A' L.length c')) a c (Cn.tell x s) A' c' A2 c2 ∧ Touch (OfAct K) w (w'.setCell ⟨a, 1, none⟩ (.slice A' L.length c')) ∧ w'.frozen? ⟨a, 1, none⟩ = false ∧ w'.cell? ⟨a, 1, none⟩ = some (.slice A1 x.2.sigs.length c1) := by
 have hB : a < w.heap.size := h.blk.lt
 have hq := ht0.size
 have h0 := h.old ht0
 have nT : ∀ k, (∀ ad, A1 = some ad -> ad.block ≠ k) -> ¬ A1.map Addr.block = some k := fun k hk e => by
  cases A1 with
  |none => cases e
  |some ad => injection e with e; exact hk ad rfl e
 have hb2 : Blk w' a 204 _ := ht.blk h0.blk (nT _ fun ad e => (h.n1 ad e).1)
 have hc2 : ConnAt w' c x.1 := ht.blk h0.conn (nT _ fun ad e => (h.n1 ad e).2)
 have hu2 : Sl pduE w' A2 c2 x.2.units := h0.units.touch ht fun ad e => nT _ fun ad' e' => h.sigs_ne ad' e' ad e
 have hA' : ∀ ad, A' = some ad -> ¬ K ad.block := fun ad e => by
  subst e
  rcases hA with e | e
  ·cases A1 with
   |none => cases e
   |some ad' => have := h.b1 ad' rfl; simp at e; rw [e]; exact this
  ·intro hk; have := h.lim _ hk; simp at e; omega
 subst hL
 refine ⟨⟨fun k hk => by have := h.lim k hk; have := ht.size; have := ht0.size; simp; omega, h.nc, h.na, hb2.set 1 _, hc2.far (by exact h.ne) _, hs.setCell (p := ⟨a, 1, none⟩) (hs.blk_ne hb2 (by decide)) _, hu2.setCell (p := ⟨a, 1, none⟩) (fun ad e => (h.n2 ad e).1) _, hA', h.b2, ⟨?_, ?_⟩, h.ok⟩, ?_, hb2.frozen 1, hb2.cell 1⟩
 ·have := h.few.1; simp [Cn.tell]; omega
 ·have := h.few.2; simp [Cn.tell]; omega
 ·refine Touch.st ((ht0.mono fun _ _ e => e.elim).trans ht fun k _ e => ?_) h.na
  cases A1 with
  |none => cases e
  |some ad => injection e with e; exact e ▸ h.b1 ad rfl
theorem ActAt.sent {A' : Option Addr} {c' : Nat} {L : List Cn.Pd} {p q : Cn.Pd} {W : World} (h : ActAt K n w a c x A1 c1 A2 c2) (ht0 : Fresh w W) (hq : q = Cn.crd x.1 p) (hL : L = x.2.units ++ [q]) (hs : Sl pduE w' A' c' L) (ht : Touch (fun k => A2.map Addr.block = some k) W w') (hA : A'.map Addr.block = A2.map Addr.block ∨ A'.map Addr.block = some W.heap.size) :
  ActAt K (n + 1) (w'.setCell ⟨a, 2, none⟩ (.slice A' L.length c')) a c (Cn.out x p) A1 c1 A' c' ∧ Touch (OfAct K) w (w'.setCell ⟨a, 2, none⟩ (.slice A' L.length c')) ∧ w'.frozen? ⟨a, 2, none⟩ = false ∧ w'.cell? ⟨a, 2, none⟩ = some (.slice A2 x.2.units.length c2) := by
 have hB : a < w.heap.size := h.blk.lt
 have hqs := ht0.size
 have h0 := h.old ht0
 have nT : ∀ k, (∀ ad, A2 = some ad -> ad.block ≠ k) -> ¬ A2.map Addr.block = some k := fun k hk e => by
  cases A2 with
  |none => cases e
  |some ad => injection e with e; exact hk ad rfl e
 have hb2 : Blk w' a 204 _ := ht.blk h0.blk (nT _ fun ad e => (h.n2 ad e).1)
 have hc2 : ConnAt w' c x.1 := ht.blk h0.conn (nT _ fun ad e => (h.n2 ad e).2)
 have hu2 : Sl sigE w' A1 c1 x.2.sigs := h0.sigs.touch ht fun ad e => nT _ fun ad' e' => fun e'' => h.sigs_ne ad e ad' e' e''.symm
 have hA' : ∀ ad, A' = some ad -> ¬ K ad.block := fun ad e => by
  subst e
  rcases hA with e | e
  ·cases A2 with
   |none => cases e
   |some ad' => have := h.b2 ad' rfl; simp at e; rw [e]; exact this
  ·intro hk; have := h.lim _ hk; simp at e; omega
 subst hL hq
 refine ⟨⟨fun k hk => by have := h.lim k hk; have := ht.size; have := ht0.size; simp; omega, h.nc, h.na, hb2.set 2 _, hc2.far (by exact h.ne) _, hu2.setCell (p := ⟨a, 2, none⟩) (fun ad e => (h.n1 ad e).1) _, hs.setCell (p := ⟨a, 2, none⟩) (hs.blk_ne hb2 (by decide)) _, h.b1, hA', ⟨?_, ?_⟩, h.ok⟩, ?_, hb2.frozen 2, hb2.cell 2⟩
 ·have := h.few.1; simp [Cn.out]; omega
 ·have := h.few.2; simp [Cn.out]; omega
 ·refine Touch.st ((ht0.mono fun _ _ e => e.elim).trans ht fun k _ e => ?_) h.na
  cases A2 with
  |none => cases e
  |some ad => injection e with e; exact e ▸ h.b2 ad rfl
theorem InAct.old (h : InAct K n w a c x) (ht : Fresh w w') : InAct K n w' a c x := by
 obtain ⟨A1, c1, A2, c2, h⟩ := h
 exact ⟨A1, c1, A2, c2, h.old ht⟩
theorem ActAt.less {K' : Nat -> Prop} (h : ActAt K n w a c x A1 c1 A2 c2) (hk : ∀ k, K' k -> K k) : ActAt K' n w a c x A1 c1 A2 c2 :=
 ⟨fun k e => h.lim k (hk k e), fun e => h.nc (hk _ e), fun e => h.na (hk _ e), h.blk, h.conn, h.sigs, h.units, fun ad e e' => h.b1 ad e (hk _ e'), fun ad e e' => h.b2 ad e (hk _ e'), h.few, h.ok⟩
theorem InAct.less {K' : Nat -> Prop} (h : InAct K n w a c x) (hk : ∀ k, K' k -> K k) : InAct K' n w a c x := by
 obtain ⟨A1, c1, A2, c2, h⟩ := h
 exact ⟨A1, c1, A2, c2, h.less hk⟩
theorem InAct.wide (h : InAct K n w a c x) (hm : n <= m) : InAct K m w a c x := by
 obtain ⟨A1, c1, A2, c2, h⟩ := h
 exact ⟨A1, c1, A2, c2, h.wide hm⟩
theorem InAct.keep {W : World} (h : InAct K n W a c x) (ht : Fresh W w) : InAct (Kept K W w) n w a c x := by
 obtain ⟨A1, c1, A2, c2, h⟩ := h
 have h' := h.old ht
 have l1 := h.blk.lt
 have l2 : c < W.heap.size := Blk.lt h.conn
 refine ⟨A1, c1, A2, c2, fun k e => ?_, fun e => ?_, fun e => ?_, h'.blk, h'.conn, h'.sigs, h'.units, fun ad e e' => ?_, fun ad e e' => ?_, h.few, h.ok⟩
 ·rcases e with e | e
  ·exact h'.lim k e
  ·exact e.2
 ·rcases e with e | e
  ·exact h.nc e
  ·omega
 ·rcases e with e | e
  ·exact h.na e
  ·omega
 ·have := h.sigs.lt ad e
  rcases e' with e' | e'
  ·exact h.b1 ad e e'
  ·omega
 ·have := h.units.lt ad e
  rcases e' with e' | e'
  ·exact h.b2 ad e e'
  ·omega
theorem Touch.loose {K' : Nat -> Prop} (h : Touch (OfAct K) w w') (hk : ∀ k, K' k -> K k) : Touch (OfAct K') w w' := h.mono fun k _ e e' => e (hk k e')
theorem Touch.keptB {g : Nat} {t : TypeId} {cs : List Value} (h : Touch (OfAct K) w w') (hb : Blk w g t cs) (hk : K g) : Blk w' g t cs := h.blk hb (fun e => e hk)
theorem InAct.done (h : InAct K n w' a c x ∧ Touch (OfAct K) w w') : InAct K n w'.drew a c x ∧ Touch (OfAct K) w w'.drew := ⟨h.1.old (Touch.refl _ _).drew, h.2.drew⟩
theorem InAct.eq (h : InAct K n w a c x) (e : x = y) : InAct K n w a c y := e ▸ h
end

theorem clonePdu_any (A : Option Addr) (c : Nat) (l : List Cn.Pd) (w : World) (h : Rd pduE w A c l) (hl : l.length <= 1000000) :
  Calls Tryz.prog 34 #[.slice A l.length c] w fun e w' => ∃ A' c', e = .returned (.slice A' l.length c') ∧ Sl pduE w' A' c' l ∧ Fresh w w' ∧ ∀ ad, A' = some ad -> w.heap.size <= ad.block := by
 cases A with
 |none =>
  have h0 := h.2.2.1 rfl
  subst h0
  have : l = [] := List.eq_nil_of_length_eq_zero (by have := h.1; omega)
  subst this
  have hz := fun w => Lib.run_eql_slice_nil (P := Tryz.prog) w 46 58 none 0 0 0 0 Tryz.underlying46
  go_enter Tryz.func34, Tryz.ntmps34
  go_wp2
  go_ret
  exact ⟨none, 0, rfl, Sl.nil _ _, Touch.refl _ _, fun _ h => by cases h⟩
 |some ad =>
  have H := lh h
  clear h
  have hz := fun w => Lib.run_eql_slice_nil (P := Tryz.prog) w 46 58 (some ad) l.length c 0 0 Tryz.underlying46
  go_enter Tryz.func34, Tryz.ntmps34
  go_wp2_with (refine app_pdu rfl rfl (l := []) (l2 := l) rfl rfl (Sl.lit pduE w _ rfl _ _ rfl _ rfl (by decide)) (H.out.alloc _) (by simp; omega) ?_; intro A2 c2 L2 w2 hL2 hs2 ht2 hA2)
  go_ret
  have e : L2 = l := hL2.out
  subst e
  refine ⟨A2, c2, rfl, hs2, (((Touch.refl _ w).alloc _).trans ht2 (fun k hk e => by simp at e; omega)), fun ad ha => ?_⟩
  subst ha
  rcases hA2 with e | e <;> (simp at e; omega)
set_option maxRecDepth 20000

def RingPdu (w : World) (g : Nat) (b : Option Nat) (most : Nat) (q : List Cn.Pd) : Prop :=
 ∃ (A : Option Addr) (c a : Nat) (buf : List Cn.Pd), Blk w g 170 [.slice A buf.length c, .int .i64 a, .int .i64 q.length, .int .i64 most] ∧ Sl pduE w A c buf ∧ A.map Addr.block = b ∧
  buf.length <= most ∧ most <= 4096 ∧ Gone buf a q

section
variable {w w' : World} {g : Nat} {b : Option Nat} {most : Nat} {q : List Cn.Pd}
theorem RingPdu.touch {S : Nat -> Prop} (h : RingPdu w g b most q) (ht : Touch S w w') (hg : ¬ S g) (hb : ∀ k, b = some k -> ¬ S k) : RingPdu w' g b most q := by
 obtain ⟨A, c, a, buf, h1, h2, h3, h4⟩ := h
 refine ⟨A, c, a, buf, ht.blk h1 hg, h2.touch ht (fun ad ha => hb _ ?_), h3, h4⟩
 rw [<- h3, ha]; rfl
theorem RingPdu.lt (h : RingPdu w g b most q) : g < w.heap.size := by obtain ⟨A, c, a, buf, h1, _⟩ := h; exact h1.lt
theorem RingPdu.ltb (h : RingPdu w g b most q) : ∀ k, b = some k -> k < w.heap.size := by
 obtain ⟨A, c, a, buf, h1, h2, rfl, _⟩ := h
 intro k hk
 cases A with
 |none => cases hk
 |some ad => have := h2.lt ad rfl; simp at hk; omega
theorem RingPdu.len_le (h : RingPdu w g b most q) : q.length <= most ∧ most <= 4096 := by
 obtain ⟨A, c, a, buf, h1, h2, h3, h4, h5, h6⟩ := h
 exact ⟨Nat.le_trans h6.len h4, h5⟩
end

theorem ringPdu_new (n : Int) (w : World) :
  Calls Tryz.prog 71 #[.int .i64 n] w fun e w' => e = .returned (.pointer (some ⟨w.heap.size, 0, none⟩)) ∧ RingPdu w' w.heap.size none (max 0 (min n 4096)).toNat [] ∧ Fresh w w' := by
 have hmm : ∀ m : Int, 0 <= m -> m <= 4096 -> RingPdu (w.alloc (.cells #[.slice none 0 0, .int .i64 0, .int .i64 0, .int .i64 m] 170)) w.heap.size none m.toNat [] := fun m h0 h1 => by
  refine ⟨none, 0, 0, [], ?_, Sl.nil _ _, rfl, by simp, by omega, Gone.nil⟩
  have := Blk.new w 170 [.slice none 0 0, .int .i64 0, .int .i64 0, .int .i64 m]
  rw [Int.toNat_of_nonneg h0]
  exact this
 have HM := lh hmm
 clear hmm
 have hf : ∀ o, Hid (Fresh w (w.alloc o)) := fun o => (Touch.refl _ _).alloc _
 have HF := lh hf
 clear hf
 obtain ⟨m, hm⟩ := qx ((if 4096 < n then (4096 : Int) else n))
 obtain ⟨m', hm'⟩ : ∃ m', (if 0 < m then m else 0) = m' := ⟨_, rfl⟩
 have hx : Hid (max 0 (min n 4096) = m' ∧ 0 <= m' ∧ m' <= 4096) := by
  rw [<- hm', <- hm]; refine ⟨?_, ?_, ?_⟩ <;> (split <;> (try split) <;> omega)
 go_enter Tryz.func71, Tryz.ntmps71
 go_wp2
 go_ret
 exact ⟨rfl, by rw [hx.out.1]; exact HM.out m' hx.out.2.1 hx.out.2.2, HF.out _⟩

section
variable {w w' : World} {g : Nat} {b : Option Nat} {most : Nat} {q : List Cn.Pd}
theorem RingPdu.same (h : RingPdu w g b most q) (he : w'.heap = w.heap) : RingPdu w' g b most q := by
 obtain ⟨A, c, a, buf, h1, h2, h3, h4⟩ := h
 exact ⟨A, c, a, buf, by unfold Blk at h1 ⊢; rw [he]; exact h1, h2.keep (fun _ _ => by rw [he]), h3, h4⟩
end

theorem ringPdu_len (g : Nat) (b : Option Nat) (most : Nat) (q : List Cn.Pd) (w : World) (h : RingPdu w g b most q) :
  Calls Tryz.prog 44 #[.pointer (some ⟨g, 0, none⟩)] w fun e w' => e = .returned (.int .i64 q.length) ∧ w' = w := by
 obtain ⟨A, c, a, buf, hb, _⟩ := h
 have c2 : w.cell? ⟨g, 2, none⟩ = some (.int .i64 q.length) := hb.cell 2
 go_enter Tryz.func44, Tryz.ntmps44
 go_wp2
 go_ret
 exact ⟨rfl, rfl⟩


theorem Blk.set8 {w : World} {g : Nat} {t : TypeId} {a0 a1 a2 a3 a4 a5 a6 a7 : Value} (h : Blk w g t [a0, a1, a2, a3, a4, a5, a6, a7]) (v0 v1 v2 v3 v4 v5 v6 v7 : Value) : Blk ((((((((w.setCell ⟨g, 0, none⟩ v0).setCell ⟨g, 1, none⟩ v1).setCell ⟨g, 2, none⟩ v2).setCell ⟨g, 3, none⟩ v3).setCell ⟨g, 4, none⟩ v4).setCell ⟨g, 5, none⟩ v5).setCell ⟨g, 6, none⟩ v6).setCell ⟨g, 7, none⟩ v7) g t [v0, v1, v2, v3, v4, v5, v6, v7] :=
 ((((((((h.set 0 v0).set 1 v1).set 2 v2).set 3 v3).set 4 v4).set 5 v5).set 6 v6).set 7 v7)
theorem Fresh.st8 {w w' : World} {g : Nat} (h : Fresh w w') (hg : w.heap.size <= g) (v0 v1 v2 v3 v4 v5 v6 v7 : Value) : Fresh w ((((((((w'.setCell ⟨g, 0, none⟩ v0).setCell ⟨g, 1, none⟩ v1).setCell ⟨g, 2, none⟩ v2).setCell ⟨g, 3, none⟩ v3).setCell ⟨g, 4, none⟩ v4).setCell ⟨g, 5, none⟩ v5).setCell ⟨g, 6, none⟩ v6).setCell ⟨g, 7, none⟩ v7) := by
 have k : ∀ i, (⟨g, i, none⟩ : Addr).block < w.heap.size -> False := fun i e => by have e : g < w.heap.size := e; omega
 exact (((((((h.setCell (k 0) v0).setCell (k 1) v1).setCell (k 2) v2).setCell (k 3) v3).setCell (k 4) v4).setCell (k 5) v5).setCell (k 6) v6).setCell (k 7) v7

theorem ringPdu_first0 (g : Nat) (b : Option Nat) (most : Nat) (w : World) (h : RingPdu w g b most []) :
  Calls Tryz.prog 83 #[.pointer (some ⟨g, 0, none⟩)] w fun e w' => e = .returned (.tuple #[.agg #[.int .i64 0, .int .i64 0, .int .u32 0, .int .u32 0, .int .u32 0, .slice none 0 0, .bool false, .string ByteArray.empty], .int .i64 9]) ∧ Fresh w w' := by
 obtain ⟨A, c, a, buf, hb, _⟩ := h
 have c2 : w.cell? ⟨g, 2, none⟩ = some (.int .i64 0) := hb.cell 2
 have hlt := hb.lt
 go_enter Tryz.func83, Tryz.ntmps83
 go_wp2
 exact bodyPost_ret (v := _) (by simp [results, Tryz.results83, go_sem]; rfl) rfl ⟨rfl, ((Touch.refl _ _).alloc _).alloc _⟩
theorem ringPdu_take0 (g : Nat) (b : Option Nat) (most : Nat) (w : World) (h : RingPdu w g b most []) :
  Calls Tryz.prog 35 #[.pointer (some ⟨g, 0, none⟩)] w fun e w' => e = .returned (.tuple #[.agg #[.int .i64 0, .int .i64 0, .int .u32 0, .int .u32 0, .int .u32 0, .slice none 0 0, .bool false, .string ByteArray.empty], .int .i64 9]) ∧ Fresh w w' := by
 have HF := lh (fun W hW => ringPdu_first0 g b most W hW)
 have H := lh h
 clear h
 go_enter Tryz.func35, Tryz.ntmps35
 go_wp2_with fail
 refine (HF.out _ (H.out.touch ((Touch.refl (fun _ => False) _).alloc _) (fun e => e) (fun _ _ e => e))).mono ?_
 rintro e w1 ⟨rfl, f1⟩
 have B1 := f1.blk (Blk.new w 58 [.int .i64 0, .int .i64 0, .int .u32 0, .int .u32 0, .int .u32 0, .slice none 0 0, .bool false, .string ByteArray.empty]) (fun e => e)
 have F1 : Hid (Fresh w w1) := ((Touch.refl _ _).alloc _).trans f1 (fun _ _ e => e)
 obtain ⟨g2, hg2⟩ := qx w.heap.size
 rw [hg2] at B1 ⊢
 have c0 : ∀ o, (w1.alloc o).cell? ⟨g2, 0, none⟩ = some (.int .i64 0) := fun o => (B1.alloc o).cell 0
 have c1 : ∀ o, (w1.alloc o).cell? ⟨g2, 1, none⟩ = some (.int .i64 0) := fun o => (B1.alloc o).cell 1
 have c2 : ∀ o, (w1.alloc o).cell? ⟨g2, 2, none⟩ = some (.int .u32 0) := fun o => (B1.alloc o).cell 2
 have c3 : ∀ o, (w1.alloc o).cell? ⟨g2, 3, none⟩ = some (.int .u32 0) := fun o => (B1.alloc o).cell 3
 have c4 : ∀ o, (w1.alloc o).cell? ⟨g2, 4, none⟩ = some (.int .u32 0) := fun o => (B1.alloc o).cell 4
 have c5 : ∀ o, (w1.alloc o).cell? ⟨g2, 5, none⟩ = some (.slice none 0 0) := fun o => (B1.alloc o).cell 5
 have c6 : ∀ o, (w1.alloc o).cell? ⟨g2, 6, none⟩ = some (.bool false) := fun o => (B1.alloc o).cell 6
 have c7 : ∀ o, (w1.alloc o).cell? ⟨g2, 7, none⟩ = some (.string ByteArray.empty) := fun o => (B1.alloc o).cell 7
 have z0 : ∀ o, (w1.alloc o).frozen? ⟨g2, 0, none⟩ = false := fun o => (B1.alloc o).frozen 0
 have z1 : ∀ o, (w1.alloc o).frozen? ⟨g2, 1, none⟩ = false := fun o => (B1.alloc o).frozen 1
 have z2 : ∀ o, (w1.alloc o).frozen? ⟨g2, 2, none⟩ = false := fun o => (B1.alloc o).frozen 2
 have z3 : ∀ o, (w1.alloc o).frozen? ⟨g2, 3, none⟩ = false := fun o => (B1.alloc o).frozen 3
 have z4 : ∀ o, (w1.alloc o).frozen? ⟨g2, 4, none⟩ = false := fun o => (B1.alloc o).frozen 4
 have z5 : ∀ o, (w1.alloc o).frozen? ⟨g2, 5, none⟩ = false := fun o => (B1.alloc o).frozen 5
 have z6 : ∀ o, (w1.alloc o).frozen? ⟨g2, 6, none⟩ = false := fun o => (B1.alloc o).frozen 6
 have z7 : ∀ o, (w1.alloc o).frozen? ⟨g2, 7, none⟩ = false := fun o => (B1.alloc o).frozen 7
 have BF := lh ((B1.alloc (.cells #[.int .i64 0, .int .i64 0, .int .u32 0, .int .u32 0, .int .u32 0, .slice none 0 0, .bool false, .string ByteArray.empty] 58)).set8 (.int .i64 0) (.int .i64 0) (.int .u32 0) (.int .u32 0) (.int .u32 0) (.slice none 0 0) (.bool false) (.string ByteArray.empty))
 have FF := lh (Fresh.st8 (F1.out.alloc (.cells #[.int .i64 0, .int .i64 0, .int .u32 0, .int .u32 0, .int .u32 0, .slice none 0 0, .bool false, .string ByteArray.empty] 58)) (Nat.le_of_eq hg2) (.int .i64 0) (.int .i64 0) (.int .u32 0) (.int .u32 0) (.int .u32 0) (.slice none 0 0) (.bool false) (.string ByteArray.empty))
 clear f1 B1 hg2 HF H
 simp only
 go_wp2
 have e0 := BF.out.cell 0
 have e1 := BF.out.cell 1
 have e2 := BF.out.cell 2
 have e3 := BF.out.cell 3
 have e4 := BF.out.cell 4
 have e5 := BF.out.cell 5
 have e6 := BF.out.cell 6
 have e7 := BF.out.cell 7
 simp only [List.getElem?_cons_zero, List.getElem?_cons_succ] at e0 e1 e2 e3 e4 e5 e6 e7
 exact bodyPost_ret (v := _) (by simp [results, Tryz.results35, go_sem, e0, e1, e2, e3, e4, e5, e6, e7]) rfl ⟨rfl, FF.out⟩
end Go.Proofs.YtipaobpmojahaaaGreat
