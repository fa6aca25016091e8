/-
  polliwogref14: connections and results by value.
-/
import Derived.Test.YtkmegkjkbalooaaCn
import Derived.Test.YtkmegkjkbalooaaCnG
namespace Go.Proofs.Ytkmegkjkbalooaa
open Go.RowKit

def rsigE : El Cn.Sig := { e := 119, size := 4, bytes := 32, zero := .agg #[.int .i64 0, .string ByteArray.empty, .bool false, .int .u8 0], zel := ⟨0, ByteArray.empty, false, 0, 0⟩, enc := fun s => [.int .i64 s.kind, .string s.data, .bool s.self, .int .u8 s.code], len := fun _ => rfl, one := by simp [Value.oneCell'], pos := by decide, zsize := rfl, zenc := rfl }
theorem Try.infoRSig : (Try.prog.info? 119).map (fun i => (i.zero, i.size, i.bytes)) = some (some (.agg #[.int .i64 0, .string ByteArray.empty, .bool false, .int .u8 0]), 4, 32) := by kernel_rfl
def runitE : El Cn.Pd := { e := 110, size := 5, bytes := 48, zero := .agg #[.int .i64 0, .int .i64 0, .int .i64 0, .bool false, .string ByteArray.empty], zel := ⟨0, 0, 0, 0, 0, none, 0, 0, false, ByteArray.empty⟩, enc := fun s => [.int .i64 s.kind, .int .i64 s.sq, .int .i64 s.n, .bool s.self, .string s.data], len := fun _ => rfl, one := by simp [Value.oneCell'], pos := by decide, zsize := rfl, zenc := rfl }
theorem Try.infoRUnit : (Try.prog.info? 110).map (fun i => (i.zero, i.size, i.bytes)) = some (some (.agg #[.int .i64 0, .int .i64 0, .int .i64 0, .bool false, .string ByteArray.empty]), 5, 48) := by kernel_rfl
theorem app_rsig {ops : Array Oper} {rest : List Oper} {o : Oper} {a : Act} {Q : Exit → Act → World → Prop} {w : World} (hgd : o.guard = none) {s x : Operand}
    (ho : o.op = .call { callee := .builtin .append, args := #[s, x], argTypes := #[87, 87] })
    {A A2 : Option Addr} {c c2 : Nat} {l l2 : List Cn.Sig} (es : a.eval s = .slice A l.length c) (ex : a.eval x = .slice A2 l2.length c2)
    (h : Sl rsigE w A c l) (h2 : Rd rsigE w A2 c2 l2) (hm : l.length + l2.length ≤ 1000000000)
    (hK : ∀ A' c' L w', Hid (L = l ++ l2) → Sl rsigE w' A' c' L → Touch (fun k => A.map Addr.block = some k) w w' → (A'.map Addr.block = A.map Addr.block ∨ A'.map Addr.block = some w.heap.size) →
      wpList Try.prog ops Q rest (a.put o.dst (.slice A' L.length c')) w') : wpList Try.prog ops Q (o :: rest) a w := by
  obtain ⟨i0, hi, hz0, hz1, hz2⟩ := info_parts Try.infoRSig
  exact wpList_app rsigE hgd ho i0 Try.underlying87 hi hz0 hz1 hz2 es ex h h2 (by simp only [maxLen]; omega) (by show _ * 32 ≤ _; omega) hK
theorem stp_rsig {ops : Array Oper} {o : Oper} {a : Act} {K : Act → World → Prop} {Q : Exit → Act → World → Prop} {F : Prop} {w : World} (hgd : o.guard = none) {s x : Operand}
    (ho : o.op = .call { callee := .builtin .append, args := #[s, x], argTypes := #[87, 87] })
    {A A2 : Option Addr} {c c2 : Nat} {l l2 : List Cn.Sig} (es : a.eval s = .slice A l.length c) (ex : a.eval x = .slice A2 l2.length c2)
    (h : Sl rsigE w A c l) (h2 : Rd rsigE w A2 c2 l2) (hm : l.length + l2.length ≤ 1000000000)
    (hK : ∀ A' c' L w', Hid (L = l ++ l2) → Sl rsigE w' A' c' L → Touch (fun k => A.map Addr.block = some k) w w' → (A'.map Addr.block = A.map Addr.block ∨ A'.map Addr.block = some w.heap.size) →
      K (a.put o.dst (.slice A' L.length c')) w') : if Region.wanted o (yielded ops a.tmps) = true then Oper.wp Try.prog o a w K Q else F := by
  obtain ⟨i0, hi, hz0, hz1, hz2⟩ := info_parts Try.infoRSig
  exact step_app rsigE hgd ho i0 Try.underlying87 hi hz0 hz1 hz2 es ex h h2 (by simp only [maxLen]; omega) (by show _ * 32 ≤ _; omega) hK
theorem app_runit {ops : Array Oper} {rest : List Oper} {o : Oper} {a : Act} {Q : Exit → Act → World → Prop} {w : World} (hgd : o.guard = none) {s x : Operand}
    (ho : o.op = .call { callee := .builtin .append, args := #[s, x], argTypes := #[88, 88] })
    {A A2 : Option Addr} {c c2 : Nat} {l l2 : List Cn.Pd} (es : a.eval s = .slice A l.length c) (ex : a.eval x = .slice A2 l2.length c2)
    (h : Sl runitE w A c l) (h2 : Rd runitE w A2 c2 l2) (hm : l.length + l2.length ≤ 1000000000)
    (hK : ∀ A' c' L w', Hid (L = l ++ l2) → Sl runitE w' A' c' L → Touch (fun k => A.map Addr.block = some k) w w' → (A'.map Addr.block = A.map Addr.block ∨ A'.map Addr.block = some w.heap.size) →
      wpList Try.prog ops Q rest (a.put o.dst (.slice A' L.length c')) w') : wpList Try.prog ops Q (o :: rest) a w := by
  obtain ⟨i0, hi, hz0, hz1, hz2⟩ := info_parts Try.infoRUnit
  exact wpList_app runitE hgd ho i0 Try.underlying88 hi hz0 hz1 hz2 es ex h h2 (by simp only [maxLen]; omega) (by show _ * 48 ≤ _; omega) hK
theorem stp_runit {ops : Array Oper} {o : Oper} {a : Act} {K : Act → World → Prop} {Q : Exit → Act → World → Prop} {F : Prop} {w : World} (hgd : o.guard = none) {s x : Operand}
    (ho : o.op = .call { callee := .builtin .append, args := #[s, x], argTypes := #[88, 88] })
    {A A2 : Option Addr} {c c2 : Nat} {l l2 : List Cn.Pd} (es : a.eval s = .slice A l.length c) (ex : a.eval x = .slice A2 l2.length c2)
    (h : Sl runitE w A c l) (h2 : Rd runitE w A2 c2 l2) (hm : l.length + l2.length ≤ 1000000000)
    (hK : ∀ A' c' L w', Hid (L = l ++ l2) → Sl runitE w' A' c' L → Touch (fun k => A.map Addr.block = some k) w w' → (A'.map Addr.block = A.map Addr.block ∨ A'.map Addr.block = some w.heap.size) →
      K (a.put o.dst (.slice A' L.length c')) w') : if Region.wanted o (yielded ops a.tmps) = true then Oper.wp Try.prog o a w K Q else F := by
  obtain ⟨i0, hi, hz0, hz1, hz2⟩ := info_parts Try.infoRUnit
  exact step_app runitE hgd ho i0 Try.underlying88 hi hz0 hz1 hz2 es ex h h2 (by simp only [maxLen]; omega) (by show _ * 48 ≤ _; omega) hK

def rcCells (s : Cn.S) : List Value := [.int .i64 s.most, .int .i64 s.credit, .int .i64 s.state, .int .i64 s.sq, .int .i64 s.peer, .int .i64 s.cc, .int .i64 s.ms, .string s.data]
def rcV (s : Cn.S) : Value := .agg #[.int .i64 s.most, .int .i64 s.credit, .int .i64 s.state, .int .i64 s.sq, .int .i64 s.peer, .int .i64 s.cc, .int .i64 s.ms, .string s.data]
/-- Where the parts of a result lie. -/
structure RP where
  A1 : Option Addr
  c1 : Nat
  A2 : Option Addr
  c2 : Nat
def rrCells (P : RP) (r : Cn.R) : List Value := [.slice P.A1 r.sigs.length P.c1, .slice P.A2 r.units.length P.c2, .bool r.begins, .bool r.ends, .int .i64 r.ms, .int .i64 r.timer]
def rrV (P : RP) (r : Cn.R) : Value := .agg #[.slice P.A1 r.sigs.length P.c1, .slice P.A2 r.units.length P.c2, .bool r.begins, .bool r.ends, .int .i64 r.ms, .int .i64 r.timer]

/-- The parts of a result: they lie in nothing that is kept. -/
structure RIn (K : Nat → Prop) (n : Nat) (w : World) (P : RP) (r : Cn.R) : Prop where
  lim : ∀ k, K k → k < w.heap.size
  sigs : Sl rsigE w P.A1 P.c1 r.sigs
  units : Sl runitE w P.A2 P.c2 r.units
  b1 : ∀ ad, P.A1 = some ad → ¬ K ad.block
  b2 : ∀ ad, P.A2 = some ad → ¬ K ad.block
  l1 : r.sigs.length ≤ n
  l2 : r.units.length ≤ n

section
variable {K : Nat → Prop} {n m : Nat} {w w' : World} {P : RP} {r r' : Cn.R}
theorem RIn.touch {T : Nat → Prop} (h : RIn K n w P r) (ht : Touch T w w') (hT : ∀ k, T k → K k) : RIn K n w' P r :=
  ⟨fun k hk => Nat.lt_of_lt_of_le (h.lim k hk) ht.size, h.sigs.touch ht (fun ad e e' => h.b1 ad e (hT _ e')), h.units.touch ht (fun ad e e' => h.b2 ad e (hT _ e')), h.b1, h.b2, h.l1, h.l2⟩
theorem RIn.old (h : RIn K n w P r) (ht : Fresh w w') : RIn K n w' P r := h.touch ht (fun _ e => e.elim)
theorem RIn.wide (h : RIn K n w P r) (hm : n ≤ m) : RIn K m w P r := ⟨h.lim, h.sigs, h.units, h.b1, h.b2, Nat.le_trans h.l1 hm, Nat.le_trans h.l2 hm⟩
theorem RIn.less {K' : Nat → Prop} (h : RIn K n w P r) (hk : ∀ k, K' k → K k) : RIn K' n w P r :=
  ⟨fun k e => h.lim k (hk k e), h.sigs, h.units, fun ad e e' => h.b1 ad e (hk _ e'), fun ad e e' => h.b2 ad e (hk _ e'), h.l1, h.l2⟩
theorem RIn.eq (h : RIn K n w P r) (e1 : r.sigs = r'.sigs) (e2 : r.units = r'.units) : RIn K n w P r' :=
  ⟨h.lim, e1 ▸ h.sigs, e2 ▸ h.units, h.b1, h.b2, e1 ▸ h.l1, e2 ▸ h.l2⟩
theorem RIn.keep {W : World} (h : RIn K n W P r) (ht : Fresh W w) : RIn (Kept K W w) n w P r := by
  refine ⟨fun k e => ?_, (h.old ht).sigs, (h.old ht).units, fun ad e e' => ?_, fun ad e e' => ?_, h.l1, h.l2⟩
  · rcases e with e | e
    · exact (h.old ht).lim k e
    · exact e.2
  · have := h.sigs.lt ad e
    rcases e' with e' | e'
    · exact h.b1 ad e e'
    · omega
  · have := h.units.lt ad e
    rcases e' with e' | e'
    · exact h.b2 ad e e'
    · omega
theorem RIn.told {A' : Option Addr} {c' : Nat} {L : List Cn.Sig} {s : Cn.Sig} {W : World} (h : RIn K n w P r) (ht0 : Fresh w W) (hL : L = r.sigs ++ [s]) (hs : Sl rsigE w' A' c' L) (ht : Touch (fun k => P.A1.map Addr.block = some k) W w') (hA : A'.map Addr.block = P.A1.map Addr.block ∨ A'.map Addr.block = some W.heap.size) :
    RIn K (n + 1) w' { P with A1 := A', c1 := c' } { r with sigs := L } ∧ Touch (OfAct K) w w' := by
  have h0 := h.old ht0
  have hq := ht0.size
  subst hL
  refine ⟨⟨fun k hk => Nat.lt_of_lt_of_le (h0.lim k hk) ht.size, hs, h0.units.touch ht (fun ad e e' => ?_), fun ad e => ?_, h.b2, by have := h.l1; simp; omega, by have := h.l2; simp; omega⟩, (ht0.mono fun _ _ e => e.elim).trans ht fun k _ e => ?_⟩
  · cases hP : P.A1 with
    | none => rw [hP] at e'; cases e'
    | some ad' =>
      rw [hP] at e'
      injection e' with e'
      obtain ⟨_, cs, hb, _⟩ := h0.units.2.2.2 ad e
      exact h0.sigs.blk_ne hb (by decide) ad' hP e'
  · simp only at e
    subst e
    rcases hA with e | e
    · cases hP : P.A1 with
      | none => rw [hP] at e; cases e
      | some ad' => have := h.b1 ad' hP; rw [hP] at e; simp at e; rw [e]; exact this
    · intro hk; have := h.lim _ hk; simp at e; omega
  · cases hP : P.A1 with
    | none => rw [hP] at e; cases e
    | some ad => rw [hP] at e; injection e with e; exact e ▸ h.b1 ad hP
theorem RIn.sent {A' : Option Addr} {c' : Nat} {L : List Cn.Pd} {q : Cn.Pd} {W : World} (h : RIn K n w P r) (ht0 : Fresh w W) (hL : L = r.units ++ [q]) (hs : Sl runitE w' A' c' L) (ht : Touch (fun k => P.A2.map Addr.block = some k) W w') (hA : A'.map Addr.block = P.A2.map Addr.block ∨ A'.map Addr.block = some W.heap.size) :
    RIn K (n + 1) w' { P with A2 := A', c2 := c' } { r with units := L } ∧ Touch (OfAct K) w w' := by
  have h0 := h.old ht0
  have hq := ht0.size
  subst hL
  refine ⟨⟨fun k hk => Nat.lt_of_lt_of_le (h0.lim k hk) ht.size, h0.sigs.touch ht (fun ad e e' => ?_), hs, h.b1, fun ad e => ?_, by have := h.l1; simp; omega, by have := h.l2; simp; omega⟩, (ht0.mono fun _ _ e => e.elim).trans ht fun k _ e => ?_⟩
  · cases hP : P.A2 with
    | none => rw [hP] at e'; cases e'
    | some ad' =>
      rw [hP] at e'
      injection e' with e'
      obtain ⟨_, cs, hb, _⟩ := h0.units.2.2.2 ad' hP
      exact h0.sigs.blk_ne hb (by decide) ad e e'.symm
  · simp only at e
    subst e
    rcases hA with e | e
    · cases hP : P.A2 with
      | none => rw [hP] at e; cases e
      | some ad' => have := h.b2 ad' hP; rw [hP] at e; simp at e; rw [e]; exact this
    · intro hk; have := h.lim _ hk; simp at e; omega
  · cases hP : P.A2 with
    | none => rw [hP] at e; cases e
    | some ad => rw [hP] at e; injection e with e; exact e ▸ h.b2 ad hP
end

/-- The post of a function that hands a connection and a result back. -/
def RPost (K : Nat → Prop) (n : Nat) (y : Cn.SR) (w : World) (e : Ending) (w' : World) : Prop := ∃ P, e = .returned (.tuple #[rcV y.1, rrV P y.2]) ∧ RIn K n w' P y.2 ∧ Touch (OfAct K) w w'
/-- The post of a function that hands a result back. -/
def RPost1 (K : Nat → Prop) (n : Nat) (r : Cn.R) (w : World) (e : Ending) (w' : World) : Prop := ∃ P, e = .returned (rrV P r) ∧ RIn K n w' P r ∧ Touch (OfAct K) w w'
end Go.Proofs.Ytkmegkjkbalooaa
