/-
  polliwogref14: to, ready, begin.
-/
import Derived.Test.YtkmegkjkbalooaaRd14
import Derived.Test.YtkmegkjkbalooaaCnC
import Derived.RegionTactic
import Derived.ChangeAlike
import Derived.Deep.RegionLaw
import Derived.Deep.QuietTactic
import Derived.BigQuiet
import Derived.StillTailTactics
import Derived.Deep.DeepCutAuto
import Derived.Deep.CutBlock
namespace Go.Proofs.Ytkmegkjkbalooaa
open Go.RowKit

namespace Cn
/-- to, as the document has it: the timer, too. -/
def toT (x : SR) (st t : Int) : SR := let y := Cn.to x st; (y.1, { y.2 with timer := if t = 0 then y.2.timer else t })
theorem toT_stop (x : SR) (st : Int) : toT x st 2 = stop x st := rfl
theorem toT_to (x : SR) (st : Int) : toT x st 0 = Cn.to x st := rfl
end Cn

set_option maxHeartbeats 4000000 in
set_option maxRecDepth 100000 in
theorem rto_any {K : Nat → Prop} {n : Nat} {w : World} {P : RP} {s : Cn.S} {r : Cn.R} (h : RIn K n w P r) (st t : Int) :
    Calls Try.prog 69 #[rcV s, rrV P r, .int .i64 st, .int .i64 t] w (RPost K n (Cn.toT (s, r) st t) w) := by
  unfold rcV rrV
  obtain ⟨w1, q0⟩ : ∃ x : World, x = ((((w.alloc (.cells #[.int .i64 s.most, .int .i64 s.credit, .int .i64 s.state, .int .i64 s.sq, .int .i64 s.peer, .int .i64 s.cc, .int .i64 s.ms, .string s.data] 59)).alloc (.cells #[.slice P.A1 r.sigs.length P.c1, .slice P.A2 r.units.length P.c2, .bool r.begins, .bool r.ends, .int .i64 r.ms, .int .i64 r.timer] 90)).alloc (.cells #[.int .i64 0, .int .i64 0, .int .i64 0, .int .i64 0, .int .i64 0, .int .i64 0, .int .i64 0, .string { data := #[] }] 59)).alloc (.cells #[.slice none 0 0, .slice none 0 0, .bool false, .bool false, .int .i64 0, .int .i64 0] 90)) := ⟨_, rfl⟩
  have q_w1 := Lib.hid q0
  clear q0
  have HF : Hid (Fresh w w1) := by rw [q_w1.out]; exact ((((Touch.refl _ w).alloc _).alloc _).alloc _).alloc _
  have HBC1 : Hid (Blk w1 (w.heap.size) 59 [.int .i64 s.most, .int .i64 s.credit, .int .i64 s.state, .int .i64 s.sq, .int .i64 s.peer, .int .i64 s.cc, .int .i64 s.ms, .string s.data]) := by
    rw [q_w1.out]
    have := (((Blk.new w 59 [.int .i64 s.most, .int .i64 s.credit, .int .i64 s.state, .int .i64 s.sq, .int .i64 s.peer, .int .i64 s.cc, .int .i64 s.ms, .string s.data]).alloc (.cells #[.slice P.A1 r.sigs.length P.c1, .slice P.A2 r.units.length P.c2, .bool r.begins, .bool r.ends, .int .i64 r.ms, .int .i64 r.timer] 90)).alloc (.cells #[.int .i64 0, .int .i64 0, .int .i64 0, .int .i64 0, .int .i64 0, .int .i64 0, .int .i64 0, .string { data := #[] }] 59)).alloc (.cells #[.slice none 0 0, .slice none 0 0, .bool false, .bool false, .int .i64 0, .int .i64 0] 90)
    exact this
  have HGC : Hid (Kept K w w1 (w.heap.size)) := by rw [q_w1.out]; exact .inr ⟨by omega, by simp; try omega⟩
  have HBR1 : Hid (Blk w1 (w.heap.size + 1) 90 [.slice P.A1 r.sigs.length P.c1, .slice P.A2 r.units.length P.c2, .bool r.begins, .bool r.ends, .int .i64 r.ms, .int .i64 r.timer]) := by
    rw [q_w1.out]
    have := ((Blk.new (w.alloc (.cells #[.int .i64 s.most, .int .i64 s.credit, .int .i64 s.state, .int .i64 s.sq, .int .i64 s.peer, .int .i64 s.cc, .int .i64 s.ms, .string s.data] 59)) 90 [.slice P.A1 r.sigs.length P.c1, .slice P.A2 r.units.length P.c2, .bool r.begins, .bool r.ends, .int .i64 r.ms, .int .i64 r.timer]).alloc (.cells #[.int .i64 0, .int .i64 0, .int .i64 0, .int .i64 0, .int .i64 0, .int .i64 0, .int .i64 0, .string { data := #[] }] 59)).alloc (.cells #[.slice none 0 0, .slice none 0 0, .bool false, .bool false, .int .i64 0, .int .i64 0] 90)
    rwa [show (w.alloc (.cells #[.int .i64 s.most, .int .i64 s.credit, .int .i64 s.state, .int .i64 s.sq, .int .i64 s.peer, .int .i64 s.cc, .int .i64 s.ms, .string s.data] 59)).heap.size = w.heap.size + 1 by simp] at this
  have HGR : Hid (Kept K w w1 (w.heap.size + 1)) := by rw [q_w1.out]; exact .inr ⟨by omega, by simp; try omega⟩
  have HBOC1 : Hid (Blk w1 (w.heap.size + 1 + 1) 59 [.int .i64 0, .int .i64 0, .int .i64 0, .int .i64 0, .int .i64 0, .int .i64 0, .int .i64 0, .string { data := #[] }]) := by
    rw [q_w1.out]
    have := (Blk.new ((w.alloc (.cells #[.int .i64 s.most, .int .i64 s.credit, .int .i64 s.state, .int .i64 s.sq, .int .i64 s.peer, .int .i64 s.cc, .int .i64 s.ms, .string s.data] 59)).alloc (.cells #[.slice P.A1 r.sigs.length P.c1, .slice P.A2 r.units.length P.c2, .bool r.begins, .bool r.ends, .int .i64 r.ms, .int .i64 r.timer] 90)) 59 [.int .i64 0, .int .i64 0, .int .i64 0, .int .i64 0, .int .i64 0, .int .i64 0, .int .i64 0, .string { data := #[] }]).alloc (.cells #[.slice none 0 0, .slice none 0 0, .bool false, .bool false, .int .i64 0, .int .i64 0] 90)
    rwa [show ((w.alloc (.cells #[.int .i64 s.most, .int .i64 s.credit, .int .i64 s.state, .int .i64 s.sq, .int .i64 s.peer, .int .i64 s.cc, .int .i64 s.ms, .string s.data] 59)).alloc (.cells #[.slice P.A1 r.sigs.length P.c1, .slice P.A2 r.units.length P.c2, .bool r.begins, .bool r.ends, .int .i64 r.ms, .int .i64 r.timer] 90)).heap.size = w.heap.size + 1 + 1 by simp] at this
  have HGOC : Hid (Kept K w w1 (w.heap.size + 1 + 1)) := by rw [q_w1.out]; exact .inr ⟨by omega, by simp; try omega⟩
  have HBOR1 : Hid (Blk w1 (w.heap.size + 1 + 1 + 1) 90 [.slice none 0 0, .slice none 0 0, .bool false, .bool false, .int .i64 0, .int .i64 0]) := by
    rw [q_w1.out]
    have := Blk.new (((w.alloc (.cells #[.int .i64 s.most, .int .i64 s.credit, .int .i64 s.state, .int .i64 s.sq, .int .i64 s.peer, .int .i64 s.cc, .int .i64 s.ms, .string s.data] 59)).alloc (.cells #[.slice P.A1 r.sigs.length P.c1, .slice P.A2 r.units.length P.c2, .bool r.begins, .bool r.ends, .int .i64 r.ms, .int .i64 r.timer] 90)).alloc (.cells #[.int .i64 0, .int .i64 0, .int .i64 0, .int .i64 0, .int .i64 0, .int .i64 0, .int .i64 0, .string { data := #[] }] 59)) 90 [.slice none 0 0, .slice none 0 0, .bool false, .bool false, .int .i64 0, .int .i64 0]
    rwa [show (((w.alloc (.cells #[.int .i64 s.most, .int .i64 s.credit, .int .i64 s.state, .int .i64 s.sq, .int .i64 s.peer, .int .i64 s.cc, .int .i64 s.ms, .string s.data] 59)).alloc (.cells #[.slice P.A1 r.sigs.length P.c1, .slice P.A2 r.units.length P.c2, .bool r.begins, .bool r.ends, .int .i64 r.ms, .int .i64 r.timer] 90)).alloc (.cells #[.int .i64 0, .int .i64 0, .int .i64 0, .int .i64 0, .int .i64 0, .int .i64 0, .int .i64 0, .string { data := #[] }] 59)).heap.size = w.heap.size + 1 + 1 + 1 by simp] at this
  have HGOR : Hid (Kept K w w1 (w.heap.size + 1 + 1 + 1)) := by rw [q_w1.out]; exact .inr ⟨by omega, by simp; try omega⟩
  have HL : Hid (∀ k, K k → Kept K w w1 k) := by rw [q_w1.out]; exact fun k e => .inl e
  have HLIM : Hid (∀ k, K k → k < w.heap.size) := h.lim
  have HR1 := Lib.hid (h.keep HF.out)
  have HT1 : Hid (Touch (OfAct K) w w1) := HF.out.mono (fun _ _ e => e.elim)
  clear h HF
  go_enter Try.func69, Try.ntmps69
  go_upto_region 1 with (fail)
  rw [← q_w1.out]
  clear q_w1
  generalize Kept K w w1 = K1 at *
  generalize w.heap.size = g at *
  have xC0 : w1.cell? ⟨g, 0, none⟩ = some (.int .i64 s.most) := HBC1.out.cell 0
  have fC0 := HBC1.out.frozen 0
  have xC1 : w1.cell? ⟨g, 1, none⟩ = some (.int .i64 s.credit) := HBC1.out.cell 1
  have fC1 := HBC1.out.frozen 1
  have xC2 : w1.cell? ⟨g, 2, none⟩ = some (.int .i64 s.state) := HBC1.out.cell 2
  have fC2 := HBC1.out.frozen 2
  have xC3 : w1.cell? ⟨g, 3, none⟩ = some (.int .i64 s.sq) := HBC1.out.cell 3
  have fC3 := HBC1.out.frozen 3
  have xC4 : w1.cell? ⟨g, 4, none⟩ = some (.int .i64 s.peer) := HBC1.out.cell 4
  have fC4 := HBC1.out.frozen 4
  have xC5 : w1.cell? ⟨g, 5, none⟩ = some (.int .i64 s.cc) := HBC1.out.cell 5
  have fC5 := HBC1.out.frozen 5
  have xC6 : w1.cell? ⟨g, 6, none⟩ = some (.int .i64 s.ms) := HBC1.out.cell 6
  have fC6 := HBC1.out.frozen 6
  have xC7 : w1.cell? ⟨g, 7, none⟩ = some (.string s.data) := HBC1.out.cell 7
  have fC7 := HBC1.out.frozen 7
  have xR0 : w1.cell? ⟨g + 1, 0, none⟩ = some (.slice P.A1 r.sigs.length P.c1) := HBR1.out.cell 0
  have fR0 := HBR1.out.frozen 0
  have xR1 : w1.cell? ⟨g + 1, 1, none⟩ = some (.slice P.A2 r.units.length P.c2) := HBR1.out.cell 1
  have fR1 := HBR1.out.frozen 1
  have xR2 : w1.cell? ⟨g + 1, 2, none⟩ = some (.bool r.begins) := HBR1.out.cell 2
  have fR2 := HBR1.out.frozen 2
  have xR3 : w1.cell? ⟨g + 1, 3, none⟩ = some (.bool r.ends) := HBR1.out.cell 3
  have fR3 := HBR1.out.frozen 3
  have xR4 : w1.cell? ⟨g + 1, 4, none⟩ = some (.int .i64 r.ms) := HBR1.out.cell 4
  have fR4 := HBR1.out.frozen 4
  have xR5 : w1.cell? ⟨g + 1, 5, none⟩ = some (.int .i64 r.timer) := HBR1.out.cell 5
  have fR5 := HBR1.out.frozen 5
  obtain ⟨S, hS⟩ : ∃ S, s.state = S := ⟨_, rfl⟩
  have HS := Lib.hid hS
  rw [hS] at xC2
  clear hS
  by_cases e10 : S = 10
  · subst e10
    by_cases ez : t = 0
    · subst ez
      have HTEN : Hid ((s.state == 10) = true) := by unfold Hid; rw [HS.out]; rfl
      go_upto_region 6 with (fail)
      have htq2_1 : Touch (· = g + 1) w1 (w1.setCell ⟨g + 1, 3, none⟩ (.bool true)) := ((Touch.refl _ w1).st (S := (· = g + 1)) (u := .bool true) (by exact rfl))
      have hbq2_1 : Blk (w1.setCell ⟨g + 1, 3, none⟩ (.bool true)) (g + 1) 90 [.slice P.A1 r.sigs.length P.c1, .slice P.A2 r.units.length P.c2, .bool r.begins, .bool true, .int .i64 r.ms, .int .i64 r.timer] := (HBR1.out.set 3 (.bool true))
      have hoq2_1C := htq2_1.blk HBC1.out (by intro e; have e : g = g + 1 := e; omega)
      have hoq2_1OC := htq2_1.blk HBOC1.out (by intro e; have e : g + 1 + 1 = g + 1 := e; omega)
      have hoq2_1OR := htq2_1.blk HBOR1.out (by intro e; have e : g + 1 + 1 + 1 = g + 1 := e; omega)
      have hrq2_1 := HR1.out.touch htq2_1 (fun k e => by have e : k = g + 1 := e; rw [e]; exact HGR.out)
      have hTq2_1 : Touch (OfAct K) w (w1.setCell ⟨g + 1, 3, none⟩ (.bool true)) := HT1.out.trans htq2_1 (fun k _ e => by have e : k = g + 1 := e; intro hk; have := HLIM.out k hk; omega)
      have htq2_2 : Touch (· = g) (w1.setCell ⟨g + 1, 3, none⟩ (.bool true)) ((w1.setCell ⟨g + 1, 3, none⟩ (.bool true)).setCell ⟨g, 2, none⟩ (.int .i64 st)) := ((Touch.refl _ (w1.setCell ⟨g + 1, 3, none⟩ (.bool true))).st (S := (· = g)) (u := .int .i64 st) (by exact rfl))
      have hbq2_2 : Blk ((w1.setCell ⟨g + 1, 3, none⟩ (.bool true)).setCell ⟨g, 2, none⟩ (.int .i64 st)) (g) 59 [.int .i64 s.most, .int .i64 s.credit, .int .i64 st, .int .i64 s.sq, .int .i64 s.peer, .int .i64 s.cc, .int .i64 s.ms, .string s.data] := (hoq2_1C.set 2 (.int .i64 st))
      have hoq2_2R := htq2_2.blk hbq2_1 (by intro e; have e : g + 1 = g := e; omega)
      have hoq2_2OC := htq2_2.blk hoq2_1OC (by intro e; have e : g + 1 + 1 = g := e; omega)
      have hoq2_2OR := htq2_2.blk hoq2_1OR (by intro e; have e : g + 1 + 1 + 1 = g := e; omega)
      have hrq2_2 := hrq2_1.touch htq2_2 (fun k e => by have e : k = g := e; rw [e]; exact HGC.out)
      have hTq2_2 : Touch (OfAct K) w ((w1.setCell ⟨g + 1, 3, none⟩ (.bool true)).setCell ⟨g, 2, none⟩ (.int .i64 st)) := hTq2_1.trans htq2_2 (fun k _ e => by have e : k = g := e; intro hk; have := HLIM.out k hk; omega)
      clear xC0 fC0 xC1 fC1 xC2 fC2 xC3 fC3 xC4 fC4 xC5 fC5 xC6 fC6 xC7 fC7 xR0 fR0 xR1 fR1 xR2 fR2 xR3 fR3 xR4 fR4 xR5 fR5
      have HBC2 : Hid (Blk ((w1.setCell ⟨g + 1, 3, none⟩ (.bool true)).setCell ⟨g, 2, none⟩ (.int .i64 st)) (g) 59 [.int .i64 s.most, .int .i64 s.credit, .int .i64 st, .int .i64 s.sq, .int .i64 s.peer, .int .i64 s.cc, .int .i64 s.ms, .string s.data]) := hbq2_2
      have HBR2 : Hid (Blk ((w1.setCell ⟨g + 1, 3, none⟩ (.bool true)).setCell ⟨g, 2, none⟩ (.int .i64 st)) (g + 1) 90 [.slice P.A1 r.sigs.length P.c1, .slice P.A2 r.units.length P.c2, .bool r.begins, .bool true, .int .i64 r.ms, .int .i64 r.timer]) := hoq2_2R
      have HBOC2 : Hid (Blk ((w1.setCell ⟨g + 1, 3, none⟩ (.bool true)).setCell ⟨g, 2, none⟩ (.int .i64 st)) (g + 1 + 1) 59 [.int .i64 0, .int .i64 0, .int .i64 0, .int .i64 0, .int .i64 0, .int .i64 0, .int .i64 0, .string { data := #[] }]) := hoq2_2OC
      have HBOR2 : Hid (Blk ((w1.setCell ⟨g + 1, 3, none⟩ (.bool true)).setCell ⟨g, 2, none⟩ (.int .i64 st)) (g + 1 + 1 + 1) 90 [.slice none 0 0, .slice none 0 0, .bool false, .bool false, .int .i64 0, .int .i64 0]) := hoq2_2OR
      have HR2 := Lib.hid hrq2_2
      have HT2 : Hid (Touch (OfAct K) w ((w1.setCell ⟨g + 1, 3, none⟩ (.bool true)).setCell ⟨g, 2, none⟩ (.int .i64 st))) := hTq2_2
      clear HBC1 HBR1 HBOC1 HBOR1 HR1 HT1 htq2_1 hbq2_1 hrq2_1 hTq2_1 hoq2_1C hoq2_1OC hoq2_1OR htq2_2 hbq2_2 hrq2_2 hTq2_2 hoq2_2R hoq2_2OC hoq2_2OR
      generalize ((w1.setCell ⟨g + 1, 3, none⟩ (.bool true)).setCell ⟨g, 2, none⟩ (.int .i64 st)) = w2 at *
      have xC0 : w2.cell? ⟨g, 0, none⟩ = some (.int .i64 s.most) := HBC2.out.cell 0
      have xC1 : w2.cell? ⟨g, 1, none⟩ = some (.int .i64 s.credit) := HBC2.out.cell 1
      have xC2 : w2.cell? ⟨g, 2, none⟩ = some (.int .i64 st) := HBC2.out.cell 2
      have xC3 : w2.cell? ⟨g, 3, none⟩ = some (.int .i64 s.sq) := HBC2.out.cell 3
      have xC4 : w2.cell? ⟨g, 4, none⟩ = some (.int .i64 s.peer) := HBC2.out.cell 4
      have xC5 : w2.cell? ⟨g, 5, none⟩ = some (.int .i64 s.cc) := HBC2.out.cell 5
      have xC6 : w2.cell? ⟨g, 6, none⟩ = some (.int .i64 s.ms) := HBC2.out.cell 6
      have xC7 : w2.cell? ⟨g, 7, none⟩ = some (.string s.data) := HBC2.out.cell 7
      have xR0 : w2.cell? ⟨g + 1, 0, none⟩ = some (.slice P.A1 r.sigs.length P.c1) := HBR2.out.cell 0
      have xR1 : w2.cell? ⟨g + 1, 1, none⟩ = some (.slice P.A2 r.units.length P.c2) := HBR2.out.cell 1
      have xR2 : w2.cell? ⟨g + 1, 2, none⟩ = some (.bool r.begins) := HBR2.out.cell 2
      have xR3 : w2.cell? ⟨g + 1, 3, none⟩ = some (.bool true) := HBR2.out.cell 3
      have xR4 : w2.cell? ⟨g + 1, 4, none⟩ = some (.int .i64 r.ms) := HBR2.out.cell 4
      have xR5 : w2.cell? ⟨g + 1, 5, none⟩ = some (.int .i64 r.timer) := HBR2.out.cell 5
      have xOC0 : w2.cell? ⟨g + 1 + 1, 0, none⟩ = some (.int .i64 0) := HBOC2.out.cell 0
      have fOC0 := HBOC2.out.frozen 0
      have xOC1 : w2.cell? ⟨g + 1 + 1, 1, none⟩ = some (.int .i64 0) := HBOC2.out.cell 1
      have fOC1 := HBOC2.out.frozen 1
      have xOC2 : w2.cell? ⟨g + 1 + 1, 2, none⟩ = some (.int .i64 0) := HBOC2.out.cell 2
      have fOC2 := HBOC2.out.frozen 2
      have xOC3 : w2.cell? ⟨g + 1 + 1, 3, none⟩ = some (.int .i64 0) := HBOC2.out.cell 3
      have fOC3 := HBOC2.out.frozen 3
      have xOC4 : w2.cell? ⟨g + 1 + 1, 4, none⟩ = some (.int .i64 0) := HBOC2.out.cell 4
      have fOC4 := HBOC2.out.frozen 4
      have xOC5 : w2.cell? ⟨g + 1 + 1, 5, none⟩ = some (.int .i64 0) := HBOC2.out.cell 5
      have fOC5 := HBOC2.out.frozen 5
      have xOC6 : w2.cell? ⟨g + 1 + 1, 6, none⟩ = some (.int .i64 0) := HBOC2.out.cell 6
      have fOC6 := HBOC2.out.frozen 6
      have xOC7 : w2.cell? ⟨g + 1 + 1, 7, none⟩ = some (.string { data := #[] }) := HBOC2.out.cell 7
      have fOC7 := HBOC2.out.frozen 7
      have xOR0 : w2.cell? ⟨g + 1 + 1 + 1, 0, none⟩ = some (.slice none 0 0) := HBOR2.out.cell 0
      have fOR0 := HBOR2.out.frozen 0
      have xOR1 : w2.cell? ⟨g + 1 + 1 + 1, 1, none⟩ = some (.slice none 0 0) := HBOR2.out.cell 1
      have fOR1 := HBOR2.out.frozen 1
      have xOR2 : w2.cell? ⟨g + 1 + 1 + 1, 2, none⟩ = some (.bool false) := HBOR2.out.cell 2
      have fOR2 := HBOR2.out.frozen 2
      have xOR3 : w2.cell? ⟨g + 1 + 1 + 1, 3, none⟩ = some (.bool false) := HBOR2.out.cell 3
      have fOR3 := HBOR2.out.frozen 3
      have xOR4 : w2.cell? ⟨g + 1 + 1 + 1, 4, none⟩ = some (.int .i64 0) := HBOR2.out.cell 4
      have fOR4 := HBOR2.out.frozen 4
      have xOR5 : w2.cell? ⟨g + 1 + 1 + 1, 5, none⟩ = some (.int .i64 0) := HBOR2.out.cell 5
      have fOR5 := HBOR2.out.frozen 5
      go_wp2
      go_region
      have htq3_1 : Touch (· = g + 1 + 1) w2 ((((((((w2.setCell ⟨g + 1 + 1, 0, none⟩ (.int .i64 s.most)).setCell ⟨g + 1 + 1, 1, none⟩ (.int .i64 s.credit)).setCell ⟨g + 1 + 1, 2, none⟩ (.int .i64 st)).setCell ⟨g + 1 + 1, 3, none⟩ (.int .i64 s.sq)).setCell ⟨g + 1 + 1, 4, none⟩ (.int .i64 s.peer)).setCell ⟨g + 1 + 1, 5, none⟩ (.int .i64 s.cc)).setCell ⟨g + 1 + 1, 6, none⟩ (.int .i64 s.ms)).setCell ⟨g + 1 + 1, 7, none⟩ (.string s.data)) := (((((((((Touch.refl _ w2).st (S := (· = g + 1 + 1)) (u := .int .i64 s.most) (by exact rfl)).st (S := (· = g + 1 + 1)) (u := .int .i64 s.credit) (by exact rfl)).st (S := (· = g + 1 + 1)) (u := .int .i64 st) (by exact rfl)).st (S := (· = g + 1 + 1)) (u := .int .i64 s.sq) (by exact rfl)).st (S := (· = g + 1 + 1)) (u := .int .i64 s.peer) (by exact rfl)).st (S := (· = g + 1 + 1)) (u := .int .i64 s.cc) (by exact rfl)).st (S := (· = g + 1 + 1)) (u := .int .i64 s.ms) (by exact rfl)).st (S := (· = g + 1 + 1)) (u := .string s.data) (by exact rfl))
      have hbq3_1 : Blk ((((((((w2.setCell ⟨g + 1 + 1, 0, none⟩ (.int .i64 s.most)).setCell ⟨g + 1 + 1, 1, none⟩ (.int .i64 s.credit)).setCell ⟨g + 1 + 1, 2, none⟩ (.int .i64 st)).setCell ⟨g + 1 + 1, 3, none⟩ (.int .i64 s.sq)).setCell ⟨g + 1 + 1, 4, none⟩ (.int .i64 s.peer)).setCell ⟨g + 1 + 1, 5, none⟩ (.int .i64 s.cc)).setCell ⟨g + 1 + 1, 6, none⟩ (.int .i64 s.ms)).setCell ⟨g + 1 + 1, 7, none⟩ (.string s.data)) (g + 1 + 1) 59 [.int .i64 s.most, .int .i64 s.credit, .int .i64 st, .int .i64 s.sq, .int .i64 s.peer, .int .i64 s.cc, .int .i64 s.ms, .string s.data] := ((((((((HBOC2.out.set 0 (.int .i64 s.most)).set 1 (.int .i64 s.credit)).set 2 (.int .i64 st)).set 3 (.int .i64 s.sq)).set 4 (.int .i64 s.peer)).set 5 (.int .i64 s.cc)).set 6 (.int .i64 s.ms)).set 7 (.string s.data))
      have hoq3_1C := htq3_1.blk HBC2.out (by intro e; have e : g = g + 1 + 1 := e; omega)
      have hoq3_1R := htq3_1.blk HBR2.out (by intro e; have e : g + 1 = g + 1 + 1 := e; omega)
      have hoq3_1OR := htq3_1.blk HBOR2.out (by intro e; have e : g + 1 + 1 + 1 = g + 1 + 1 := e; omega)
      have hrq3_1 := HR2.out.touch htq3_1 (fun k e => by have e : k = g + 1 + 1 := e; rw [e]; exact HGOC.out)
      have hTq3_1 : Touch (OfAct K) w ((((((((w2.setCell ⟨g + 1 + 1, 0, none⟩ (.int .i64 s.most)).setCell ⟨g + 1 + 1, 1, none⟩ (.int .i64 s.credit)).setCell ⟨g + 1 + 1, 2, none⟩ (.int .i64 st)).setCell ⟨g + 1 + 1, 3, none⟩ (.int .i64 s.sq)).setCell ⟨g + 1 + 1, 4, none⟩ (.int .i64 s.peer)).setCell ⟨g + 1 + 1, 5, none⟩ (.int .i64 s.cc)).setCell ⟨g + 1 + 1, 6, none⟩ (.int .i64 s.ms)).setCell ⟨g + 1 + 1, 7, none⟩ (.string s.data)) := HT2.out.trans htq3_1 (fun k _ e => by have e : k = g + 1 + 1 := e; intro hk; have := HLIM.out k hk; omega)
      have htq3_2 : Touch (· = g + 1 + 1 + 1) ((((((((w2.setCell ⟨g + 1 + 1, 0, none⟩ (.int .i64 s.most)).setCell ⟨g + 1 + 1, 1, none⟩ (.int .i64 s.credit)).setCell ⟨g + 1 + 1, 2, none⟩ (.int .i64 st)).setCell ⟨g + 1 + 1, 3, none⟩ (.int .i64 s.sq)).setCell ⟨g + 1 + 1, 4, none⟩ (.int .i64 s.peer)).setCell ⟨g + 1 + 1, 5, none⟩ (.int .i64 s.cc)).setCell ⟨g + 1 + 1, 6, none⟩ (.int .i64 s.ms)).setCell ⟨g + 1 + 1, 7, none⟩ (.string s.data)) ((((((((((((((w2.setCell ⟨g + 1 + 1, 0, none⟩ (.int .i64 s.most)).setCell ⟨g + 1 + 1, 1, none⟩ (.int .i64 s.credit)).setCell ⟨g + 1 + 1, 2, none⟩ (.int .i64 st)).setCell ⟨g + 1 + 1, 3, none⟩ (.int .i64 s.sq)).setCell ⟨g + 1 + 1, 4, none⟩ (.int .i64 s.peer)).setCell ⟨g + 1 + 1, 5, none⟩ (.int .i64 s.cc)).setCell ⟨g + 1 + 1, 6, none⟩ (.int .i64 s.ms)).setCell ⟨g + 1 + 1, 7, none⟩ (.string s.data)).setCell ⟨g + 1 + 1 + 1, 0, none⟩ (.slice P.A1 r.sigs.length P.c1)).setCell ⟨g + 1 + 1 + 1, 1, none⟩ (.slice P.A2 r.units.length P.c2)).setCell ⟨g + 1 + 1 + 1, 2, none⟩ (.bool r.begins)).setCell ⟨g + 1 + 1 + 1, 3, none⟩ (.bool true)).setCell ⟨g + 1 + 1 + 1, 4, none⟩ (.int .i64 r.ms)).setCell ⟨g + 1 + 1 + 1, 5, none⟩ (.int .i64 r.timer)) := (((((((Touch.refl _ ((((((((w2.setCell ⟨g + 1 + 1, 0, none⟩ (.int .i64 s.most)).setCell ⟨g + 1 + 1, 1, none⟩ (.int .i64 s.credit)).setCell ⟨g + 1 + 1, 2, none⟩ (.int .i64 st)).setCell ⟨g + 1 + 1, 3, none⟩ (.int .i64 s.sq)).setCell ⟨g + 1 + 1, 4, none⟩ (.int .i64 s.peer)).setCell ⟨g + 1 + 1, 5, none⟩ (.int .i64 s.cc)).setCell ⟨g + 1 + 1, 6, none⟩ (.int .i64 s.ms)).setCell ⟨g + 1 + 1, 7, none⟩ (.string s.data))).st (S := (· = g + 1 + 1 + 1)) (u := .slice P.A1 r.sigs.length P.c1) (by exact rfl)).st (S := (· = g + 1 + 1 + 1)) (u := .slice P.A2 r.units.length P.c2) (by exact rfl)).st (S := (· = g + 1 + 1 + 1)) (u := .bool r.begins) (by exact rfl)).st (S := (· = g + 1 + 1 + 1)) (u := .bool true) (by exact rfl)).st (S := (· = g + 1 + 1 + 1)) (u := .int .i64 r.ms) (by exact rfl)).st (S := (· = g + 1 + 1 + 1)) (u := .int .i64 r.timer) (by exact rfl))
      have hbq3_2 : Blk ((((((((((((((w2.setCell ⟨g + 1 + 1, 0, none⟩ (.int .i64 s.most)).setCell ⟨g + 1 + 1, 1, none⟩ (.int .i64 s.credit)).setCell ⟨g + 1 + 1, 2, none⟩ (.int .i64 st)).setCell ⟨g + 1 + 1, 3, none⟩ (.int .i64 s.sq)).setCell ⟨g + 1 + 1, 4, none⟩ (.int .i64 s.peer)).setCell ⟨g + 1 + 1, 5, none⟩ (.int .i64 s.cc)).setCell ⟨g + 1 + 1, 6, none⟩ (.int .i64 s.ms)).setCell ⟨g + 1 + 1, 7, none⟩ (.string s.data)).setCell ⟨g + 1 + 1 + 1, 0, none⟩ (.slice P.A1 r.sigs.length P.c1)).setCell ⟨g + 1 + 1 + 1, 1, none⟩ (.slice P.A2 r.units.length P.c2)).setCell ⟨g + 1 + 1 + 1, 2, none⟩ (.bool r.begins)).setCell ⟨g + 1 + 1 + 1, 3, none⟩ (.bool true)).setCell ⟨g + 1 + 1 + 1, 4, none⟩ (.int .i64 r.ms)).setCell ⟨g + 1 + 1 + 1, 5, none⟩ (.int .i64 r.timer)) (g + 1 + 1 + 1) 90 [.slice P.A1 r.sigs.length P.c1, .slice P.A2 r.units.length P.c2, .bool r.begins, .bool true, .int .i64 r.ms, .int .i64 r.timer] := ((((((hoq3_1OR.set 0 (.slice P.A1 r.sigs.length P.c1)).set 1 (.slice P.A2 r.units.length P.c2)).set 2 (.bool r.begins)).set 3 (.bool true)).set 4 (.int .i64 r.ms)).set 5 (.int .i64 r.timer))
      have hoq3_2C := htq3_2.blk hoq3_1C (by intro e; have e : g = g + 1 + 1 + 1 := e; omega)
      have hoq3_2R := htq3_2.blk hoq3_1R (by intro e; have e : g + 1 = g + 1 + 1 + 1 := e; omega)
      have hoq3_2OC := htq3_2.blk hbq3_1 (by intro e; have e : g + 1 + 1 = g + 1 + 1 + 1 := e; omega)
      have hrq3_2 := hrq3_1.touch htq3_2 (fun k e => by have e : k = g + 1 + 1 + 1 := e; rw [e]; exact HGOR.out)
      have hTq3_2 : Touch (OfAct K) w ((((((((((((((w2.setCell ⟨g + 1 + 1, 0, none⟩ (.int .i64 s.most)).setCell ⟨g + 1 + 1, 1, none⟩ (.int .i64 s.credit)).setCell ⟨g + 1 + 1, 2, none⟩ (.int .i64 st)).setCell ⟨g + 1 + 1, 3, none⟩ (.int .i64 s.sq)).setCell ⟨g + 1 + 1, 4, none⟩ (.int .i64 s.peer)).setCell ⟨g + 1 + 1, 5, none⟩ (.int .i64 s.cc)).setCell ⟨g + 1 + 1, 6, none⟩ (.int .i64 s.ms)).setCell ⟨g + 1 + 1, 7, none⟩ (.string s.data)).setCell ⟨g + 1 + 1 + 1, 0, none⟩ (.slice P.A1 r.sigs.length P.c1)).setCell ⟨g + 1 + 1 + 1, 1, none⟩ (.slice P.A2 r.units.length P.c2)).setCell ⟨g + 1 + 1 + 1, 2, none⟩ (.bool r.begins)).setCell ⟨g + 1 + 1 + 1, 3, none⟩ (.bool true)).setCell ⟨g + 1 + 1 + 1, 4, none⟩ (.int .i64 r.ms)).setCell ⟨g + 1 + 1 + 1, 5, none⟩ (.int .i64 r.timer)) := hTq3_1.trans htq3_2 (fun k _ e => by have e : k = g + 1 + 1 + 1 := e; intro hk; have := HLIM.out k hk; omega)
      clear xC0 xC1 xC2 xC3 xC4 xC5 xC6 xC7 xR0 xR1 xR2 xR3 xR4 xR5 xOC0 fOC0 xOC1 fOC1 xOC2 fOC2 xOC3 fOC3 xOC4 fOC4 xOC5 fOC5 xOC6 fOC6 xOC7 fOC7 xOR0 fOR0 xOR1 fOR1 xOR2 fOR2 xOR3 fOR3 xOR4 fOR4 xOR5 fOR5
      have HBC3 : Hid (Blk ((((((((((((((w2.setCell ⟨g + 1 + 1, 0, none⟩ (.int .i64 s.most)).setCell ⟨g + 1 + 1, 1, none⟩ (.int .i64 s.credit)).setCell ⟨g + 1 + 1, 2, none⟩ (.int .i64 st)).setCell ⟨g + 1 + 1, 3, none⟩ (.int .i64 s.sq)).setCell ⟨g + 1 + 1, 4, none⟩ (.int .i64 s.peer)).setCell ⟨g + 1 + 1, 5, none⟩ (.int .i64 s.cc)).setCell ⟨g + 1 + 1, 6, none⟩ (.int .i64 s.ms)).setCell ⟨g + 1 + 1, 7, none⟩ (.string s.data)).setCell ⟨g + 1 + 1 + 1, 0, none⟩ (.slice P.A1 r.sigs.length P.c1)).setCell ⟨g + 1 + 1 + 1, 1, none⟩ (.slice P.A2 r.units.length P.c2)).setCell ⟨g + 1 + 1 + 1, 2, none⟩ (.bool r.begins)).setCell ⟨g + 1 + 1 + 1, 3, none⟩ (.bool true)).setCell ⟨g + 1 + 1 + 1, 4, none⟩ (.int .i64 r.ms)).setCell ⟨g + 1 + 1 + 1, 5, none⟩ (.int .i64 r.timer)).drew (g) 59 [.int .i64 s.most, .int .i64 s.credit, .int .i64 st, .int .i64 s.sq, .int .i64 s.peer, .int .i64 s.cc, .int .i64 s.ms, .string s.data]) := Blk.drew hoq3_2C
      have HBR3 : Hid (Blk ((((((((((((((w2.setCell ⟨g + 1 + 1, 0, none⟩ (.int .i64 s.most)).setCell ⟨g + 1 + 1, 1, none⟩ (.int .i64 s.credit)).setCell ⟨g + 1 + 1, 2, none⟩ (.int .i64 st)).setCell ⟨g + 1 + 1, 3, none⟩ (.int .i64 s.sq)).setCell ⟨g + 1 + 1, 4, none⟩ (.int .i64 s.peer)).setCell ⟨g + 1 + 1, 5, none⟩ (.int .i64 s.cc)).setCell ⟨g + 1 + 1, 6, none⟩ (.int .i64 s.ms)).setCell ⟨g + 1 + 1, 7, none⟩ (.string s.data)).setCell ⟨g + 1 + 1 + 1, 0, none⟩ (.slice P.A1 r.sigs.length P.c1)).setCell ⟨g + 1 + 1 + 1, 1, none⟩ (.slice P.A2 r.units.length P.c2)).setCell ⟨g + 1 + 1 + 1, 2, none⟩ (.bool r.begins)).setCell ⟨g + 1 + 1 + 1, 3, none⟩ (.bool true)).setCell ⟨g + 1 + 1 + 1, 4, none⟩ (.int .i64 r.ms)).setCell ⟨g + 1 + 1 + 1, 5, none⟩ (.int .i64 r.timer)).drew (g + 1) 90 [.slice P.A1 r.sigs.length P.c1, .slice P.A2 r.units.length P.c2, .bool r.begins, .bool true, .int .i64 r.ms, .int .i64 r.timer]) := Blk.drew hoq3_2R
      have HBOC3 : Hid (Blk ((((((((((((((w2.setCell ⟨g + 1 + 1, 0, none⟩ (.int .i64 s.most)).setCell ⟨g + 1 + 1, 1, none⟩ (.int .i64 s.credit)).setCell ⟨g + 1 + 1, 2, none⟩ (.int .i64 st)).setCell ⟨g + 1 + 1, 3, none⟩ (.int .i64 s.sq)).setCell ⟨g + 1 + 1, 4, none⟩ (.int .i64 s.peer)).setCell ⟨g + 1 + 1, 5, none⟩ (.int .i64 s.cc)).setCell ⟨g + 1 + 1, 6, none⟩ (.int .i64 s.ms)).setCell ⟨g + 1 + 1, 7, none⟩ (.string s.data)).setCell ⟨g + 1 + 1 + 1, 0, none⟩ (.slice P.A1 r.sigs.length P.c1)).setCell ⟨g + 1 + 1 + 1, 1, none⟩ (.slice P.A2 r.units.length P.c2)).setCell ⟨g + 1 + 1 + 1, 2, none⟩ (.bool r.begins)).setCell ⟨g + 1 + 1 + 1, 3, none⟩ (.bool true)).setCell ⟨g + 1 + 1 + 1, 4, none⟩ (.int .i64 r.ms)).setCell ⟨g + 1 + 1 + 1, 5, none⟩ (.int .i64 r.timer)).drew (g + 1 + 1) 59 [.int .i64 s.most, .int .i64 s.credit, .int .i64 st, .int .i64 s.sq, .int .i64 s.peer, .int .i64 s.cc, .int .i64 s.ms, .string s.data]) := Blk.drew hoq3_2OC
      have HBOR3 : Hid (Blk ((((((((((((((w2.setCell ⟨g + 1 + 1, 0, none⟩ (.int .i64 s.most)).setCell ⟨g + 1 + 1, 1, none⟩ (.int .i64 s.credit)).setCell ⟨g + 1 + 1, 2, none⟩ (.int .i64 st)).setCell ⟨g + 1 + 1, 3, none⟩ (.int .i64 s.sq)).setCell ⟨g + 1 + 1, 4, none⟩ (.int .i64 s.peer)).setCell ⟨g + 1 + 1, 5, none⟩ (.int .i64 s.cc)).setCell ⟨g + 1 + 1, 6, none⟩ (.int .i64 s.ms)).setCell ⟨g + 1 + 1, 7, none⟩ (.string s.data)).setCell ⟨g + 1 + 1 + 1, 0, none⟩ (.slice P.A1 r.sigs.length P.c1)).setCell ⟨g + 1 + 1 + 1, 1, none⟩ (.slice P.A2 r.units.length P.c2)).setCell ⟨g + 1 + 1 + 1, 2, none⟩ (.bool r.begins)).setCell ⟨g + 1 + 1 + 1, 3, none⟩ (.bool true)).setCell ⟨g + 1 + 1 + 1, 4, none⟩ (.int .i64 r.ms)).setCell ⟨g + 1 + 1 + 1, 5, none⟩ (.int .i64 r.timer)).drew (g + 1 + 1 + 1) 90 [.slice P.A1 r.sigs.length P.c1, .slice P.A2 r.units.length P.c2, .bool r.begins, .bool true, .int .i64 r.ms, .int .i64 r.timer]) := Blk.drew hbq3_2
      have HR3 := Lib.hid (RIn.old hrq3_2 (Touch.refl _ ((((((((((((((w2.setCell ⟨g + 1 + 1, 0, none⟩ (.int .i64 s.most)).setCell ⟨g + 1 + 1, 1, none⟩ (.int .i64 s.credit)).setCell ⟨g + 1 + 1, 2, none⟩ (.int .i64 st)).setCell ⟨g + 1 + 1, 3, none⟩ (.int .i64 s.sq)).setCell ⟨g + 1 + 1, 4, none⟩ (.int .i64 s.peer)).setCell ⟨g + 1 + 1, 5, none⟩ (.int .i64 s.cc)).setCell ⟨g + 1 + 1, 6, none⟩ (.int .i64 s.ms)).setCell ⟨g + 1 + 1, 7, none⟩ (.string s.data)).setCell ⟨g + 1 + 1 + 1, 0, none⟩ (.slice P.A1 r.sigs.length P.c1)).setCell ⟨g + 1 + 1 + 1, 1, none⟩ (.slice P.A2 r.units.length P.c2)).setCell ⟨g + 1 + 1 + 1, 2, none⟩ (.bool r.begins)).setCell ⟨g + 1 + 1 + 1, 3, none⟩ (.bool true)).setCell ⟨g + 1 + 1 + 1, 4, none⟩ (.int .i64 r.ms)).setCell ⟨g + 1 + 1 + 1, 5, none⟩ (.int .i64 r.timer))).drew)
      have HT3 : Hid (Touch (OfAct K) w ((((((((((((((w2.setCell ⟨g + 1 + 1, 0, none⟩ (.int .i64 s.most)).setCell ⟨g + 1 + 1, 1, none⟩ (.int .i64 s.credit)).setCell ⟨g + 1 + 1, 2, none⟩ (.int .i64 st)).setCell ⟨g + 1 + 1, 3, none⟩ (.int .i64 s.sq)).setCell ⟨g + 1 + 1, 4, none⟩ (.int .i64 s.peer)).setCell ⟨g + 1 + 1, 5, none⟩ (.int .i64 s.cc)).setCell ⟨g + 1 + 1, 6, none⟩ (.int .i64 s.ms)).setCell ⟨g + 1 + 1, 7, none⟩ (.string s.data)).setCell ⟨g + 1 + 1 + 1, 0, none⟩ (.slice P.A1 r.sigs.length P.c1)).setCell ⟨g + 1 + 1 + 1, 1, none⟩ (.slice P.A2 r.units.length P.c2)).setCell ⟨g + 1 + 1 + 1, 2, none⟩ (.bool r.begins)).setCell ⟨g + 1 + 1 + 1, 3, none⟩ (.bool true)).setCell ⟨g + 1 + 1 + 1, 4, none⟩ (.int .i64 r.ms)).setCell ⟨g + 1 + 1 + 1, 5, none⟩ (.int .i64 r.timer)).drew) := Touch.drew hTq3_2
      clear HBC2 HBR2 HBOC2 HBOR2 HR2 HT2 htq3_1 hbq3_1 hrq3_1 hTq3_1 hoq3_1C hoq3_1R hoq3_1OR htq3_2 hbq3_2 hrq3_2 hTq3_2 hoq3_2C hoq3_2R hoq3_2OC
      generalize ((((((((((((((w2.setCell ⟨g + 1 + 1, 0, none⟩ (.int .i64 s.most)).setCell ⟨g + 1 + 1, 1, none⟩ (.int .i64 s.credit)).setCell ⟨g + 1 + 1, 2, none⟩ (.int .i64 st)).setCell ⟨g + 1 + 1, 3, none⟩ (.int .i64 s.sq)).setCell ⟨g + 1 + 1, 4, none⟩ (.int .i64 s.peer)).setCell ⟨g + 1 + 1, 5, none⟩ (.int .i64 s.cc)).setCell ⟨g + 1 + 1, 6, none⟩ (.int .i64 s.ms)).setCell ⟨g + 1 + 1, 7, none⟩ (.string s.data)).setCell ⟨g + 1 + 1 + 1, 0, none⟩ (.slice P.A1 r.sigs.length P.c1)).setCell ⟨g + 1 + 1 + 1, 1, none⟩ (.slice P.A2 r.units.length P.c2)).setCell ⟨g + 1 + 1 + 1, 2, none⟩ (.bool r.begins)).setCell ⟨g + 1 + 1 + 1, 3, none⟩ (.bool true)).setCell ⟨g + 1 + 1 + 1, 4, none⟩ (.int .i64 r.ms)).setCell ⟨g + 1 + 1 + 1, 5, none⟩ (.int .i64 r.timer)).drew = w3 at *
      have HX : Hid (∀ e, e = .returned (.tuple #[.agg #[.int .i64 s.most, .int .i64 s.credit, .int .i64 st, .int .i64 s.sq, .int .i64 s.peer, .int .i64 s.cc, .int .i64 s.ms, .string s.data], .agg #[.slice P.A1 r.sigs.length P.c1, .slice P.A2 r.units.length P.c2, .bool r.begins, .bool true, .int .i64 r.ms, .int .i64 r.timer]]) → RPost K (n + 0) (Cn.toT (s, r) st 0) w e w3) := fun e he => ⟨P, he.trans (by (unfold Cn.toT Cn.to; simp only [HTEN.out, Bool.or_true, Bool.or_false]; rfl)), by exact ((HR3.out.less HL.out).wide (by omega)).eq rfl rfl, HT3.out⟩
      have zOC0 : w3.cell? ⟨g + 1 + 1, 0, none⟩ = some (.int .i64 s.most) := HBOC3.out.cell 0
      have zOC1 : w3.cell? ⟨g + 1 + 1, 1, none⟩ = some (.int .i64 s.credit) := HBOC3.out.cell 1
      have zOC2 : w3.cell? ⟨g + 1 + 1, 2, none⟩ = some (.int .i64 st) := HBOC3.out.cell 2
      have zOC3 : w3.cell? ⟨g + 1 + 1, 3, none⟩ = some (.int .i64 s.sq) := HBOC3.out.cell 3
      have zOC4 : w3.cell? ⟨g + 1 + 1, 4, none⟩ = some (.int .i64 s.peer) := HBOC3.out.cell 4
      have zOC5 : w3.cell? ⟨g + 1 + 1, 5, none⟩ = some (.int .i64 s.cc) := HBOC3.out.cell 5
      have zOC6 : w3.cell? ⟨g + 1 + 1, 6, none⟩ = some (.int .i64 s.ms) := HBOC3.out.cell 6
      have zOC7 : w3.cell? ⟨g + 1 + 1, 7, none⟩ = some (.string s.data) := HBOC3.out.cell 7
      have zOR0 : w3.cell? ⟨g + 1 + 1 + 1, 0, none⟩ = some (.slice P.A1 r.sigs.length P.c1) := HBOR3.out.cell 0
      have zOR1 : w3.cell? ⟨g + 1 + 1 + 1, 1, none⟩ = some (.slice P.A2 r.units.length P.c2) := HBOR3.out.cell 1
      have zOR2 : w3.cell? ⟨g + 1 + 1 + 1, 2, none⟩ = some (.bool r.begins) := HBOR3.out.cell 2
      have zOR3 : w3.cell? ⟨g + 1 + 1 + 1, 3, none⟩ = some (.bool true) := HBOR3.out.cell 3
      have zOR4 : w3.cell? ⟨g + 1 + 1 + 1, 4, none⟩ = some (.int .i64 r.ms) := HBOR3.out.cell 4
      have zOR5 : w3.cell? ⟨g + 1 + 1 + 1, 5, none⟩ = some (.int .i64 r.timer) := HBOR3.out.cell 5
      go_wp2
      exact bodyPost_ret (v := _) (by simp [results, Try.results69, go_sem, zOC0, zOC1, zOC2, zOC3, zOC4, zOC5, zOC6, zOC7, zOR0, zOR1, zOR2, zOR3, zOR4, zOR5]) rfl (HX.out _ rfl)
    have bz : (t != 0) = true := by simpa using ez
    have HZ := Lib.hid ez
    clear ez
    have HTEN : Hid ((s.state == 10) = true) := by unfold Hid; rw [HS.out]; rfl
    go_upto_region 6 with (fail)
    have htq2_1 : Touch (· = g + 1) w1 (w1.setCell ⟨g + 1, 3, none⟩ (.bool true)) := ((Touch.refl _ w1).st (S := (· = g + 1)) (u := .bool true) (by exact rfl))
    have hbq2_1 : Blk (w1.setCell ⟨g + 1, 3, none⟩ (.bool true)) (g + 1) 90 [.slice P.A1 r.sigs.length P.c1, .slice P.A2 r.units.length P.c2, .bool r.begins, .bool true, .int .i64 r.ms, .int .i64 r.timer] := (HBR1.out.set 3 (.bool true))
    have hoq2_1C := htq2_1.blk HBC1.out (by intro e; have e : g = g + 1 := e; omega)
    have hoq2_1OC := htq2_1.blk HBOC1.out (by intro e; have e : g + 1 + 1 = g + 1 := e; omega)
    have hoq2_1OR := htq2_1.blk HBOR1.out (by intro e; have e : g + 1 + 1 + 1 = g + 1 := e; omega)
    have hrq2_1 := HR1.out.touch htq2_1 (fun k e => by have e : k = g + 1 := e; rw [e]; exact HGR.out)
    have hTq2_1 : Touch (OfAct K) w (w1.setCell ⟨g + 1, 3, none⟩ (.bool true)) := HT1.out.trans htq2_1 (fun k _ e => by have e : k = g + 1 := e; intro hk; have := HLIM.out k hk; omega)
    have htq2_2 : Touch (· = g) (w1.setCell ⟨g + 1, 3, none⟩ (.bool true)) ((w1.setCell ⟨g + 1, 3, none⟩ (.bool true)).setCell ⟨g, 2, none⟩ (.int .i64 st)) := ((Touch.refl _ (w1.setCell ⟨g + 1, 3, none⟩ (.bool true))).st (S := (· = g)) (u := .int .i64 st) (by exact rfl))
    have hbq2_2 : Blk ((w1.setCell ⟨g + 1, 3, none⟩ (.bool true)).setCell ⟨g, 2, none⟩ (.int .i64 st)) (g) 59 [.int .i64 s.most, .int .i64 s.credit, .int .i64 st, .int .i64 s.sq, .int .i64 s.peer, .int .i64 s.cc, .int .i64 s.ms, .string s.data] := (hoq2_1C.set 2 (.int .i64 st))
    have hoq2_2R := htq2_2.blk hbq2_1 (by intro e; have e : g + 1 = g := e; omega)
    have hoq2_2OC := htq2_2.blk hoq2_1OC (by intro e; have e : g + 1 + 1 = g := e; omega)
    have hoq2_2OR := htq2_2.blk hoq2_1OR (by intro e; have e : g + 1 + 1 + 1 = g := e; omega)
    have hrq2_2 := hrq2_1.touch htq2_2 (fun k e => by have e : k = g := e; rw [e]; exact HGC.out)
    have hTq2_2 : Touch (OfAct K) w ((w1.setCell ⟨g + 1, 3, none⟩ (.bool true)).setCell ⟨g, 2, none⟩ (.int .i64 st)) := hTq2_1.trans htq2_2 (fun k _ e => by have e : k = g := e; intro hk; have := HLIM.out k hk; omega)
    have htq2_3 : Touch (· = g + 1) ((w1.setCell ⟨g + 1, 3, none⟩ (.bool true)).setCell ⟨g, 2, none⟩ (.int .i64 st)) (((w1.setCell ⟨g + 1, 3, none⟩ (.bool true)).setCell ⟨g, 2, none⟩ (.int .i64 st)).setCell ⟨g + 1, 5, none⟩ (.int .i64 t)) := ((Touch.refl _ ((w1.setCell ⟨g + 1, 3, none⟩ (.bool true)).setCell ⟨g, 2, none⟩ (.int .i64 st))).st (S := (· = g + 1)) (u := .int .i64 t) (by exact rfl))
    have hbq2_3 : Blk (((w1.setCell ⟨g + 1, 3, none⟩ (.bool true)).setCell ⟨g, 2, none⟩ (.int .i64 st)).setCell ⟨g + 1, 5, none⟩ (.int .i64 t)) (g + 1) 90 [.slice P.A1 r.sigs.length P.c1, .slice P.A2 r.units.length P.c2, .bool r.begins, .bool true, .int .i64 r.ms, .int .i64 t] := (hoq2_2R.set 5 (.int .i64 t))
    have hoq2_3C := htq2_3.blk hbq2_2 (by intro e; have e : g = g + 1 := e; omega)
    have hoq2_3OC := htq2_3.blk hoq2_2OC (by intro e; have e : g + 1 + 1 = g + 1 := e; omega)
    have hoq2_3OR := htq2_3.blk hoq2_2OR (by intro e; have e : g + 1 + 1 + 1 = g + 1 := e; omega)
    have hrq2_3 := hrq2_2.touch htq2_3 (fun k e => by have e : k = g + 1 := e; rw [e]; exact HGR.out)
    have hTq2_3 : Touch (OfAct K) w (((w1.setCell ⟨g + 1, 3, none⟩ (.bool true)).setCell ⟨g, 2, none⟩ (.int .i64 st)).setCell ⟨g + 1, 5, none⟩ (.int .i64 t)) := hTq2_2.trans htq2_3 (fun k _ e => by have e : k = g + 1 := e; intro hk; have := HLIM.out k hk; omega)
    clear xC0 fC0 xC1 fC1 xC2 fC2 xC3 fC3 xC4 fC4 xC5 fC5 xC6 fC6 xC7 fC7 xR0 fR0 xR1 fR1 xR2 fR2 xR3 fR3 xR4 fR4 xR5 fR5
    have HBC2 : Hid (Blk (((w1.setCell ⟨g + 1, 3, none⟩ (.bool true)).setCell ⟨g, 2, none⟩ (.int .i64 st)).setCell ⟨g + 1, 5, none⟩ (.int .i64 t)) (g) 59 [.int .i64 s.most, .int .i64 s.credit, .int .i64 st, .int .i64 s.sq, .int .i64 s.peer, .int .i64 s.cc, .int .i64 s.ms, .string s.data]) := hoq2_3C
    have HBR2 : Hid (Blk (((w1.setCell ⟨g + 1, 3, none⟩ (.bool true)).setCell ⟨g, 2, none⟩ (.int .i64 st)).setCell ⟨g + 1, 5, none⟩ (.int .i64 t)) (g + 1) 90 [.slice P.A1 r.sigs.length P.c1, .slice P.A2 r.units.length P.c2, .bool r.begins, .bool true, .int .i64 r.ms, .int .i64 t]) := hbq2_3
    have HBOC2 : Hid (Blk (((w1.setCell ⟨g + 1, 3, none⟩ (.bool true)).setCell ⟨g, 2, none⟩ (.int .i64 st)).setCell ⟨g + 1, 5, none⟩ (.int .i64 t)) (g + 1 + 1) 59 [.int .i64 0, .int .i64 0, .int .i64 0, .int .i64 0, .int .i64 0, .int .i64 0, .int .i64 0, .string { data := #[] }]) := hoq2_3OC
    have HBOR2 : Hid (Blk (((w1.setCell ⟨g + 1, 3, none⟩ (.bool true)).setCell ⟨g, 2, none⟩ (.int .i64 st)).setCell ⟨g + 1, 5, none⟩ (.int .i64 t)) (g + 1 + 1 + 1) 90 [.slice none 0 0, .slice none 0 0, .bool false, .bool false, .int .i64 0, .int .i64 0]) := hoq2_3OR
    have HR2 := Lib.hid hrq2_3
    have HT2 : Hid (Touch (OfAct K) w (((w1.setCell ⟨g + 1, 3, none⟩ (.bool true)).setCell ⟨g, 2, none⟩ (.int .i64 st)).setCell ⟨g + 1, 5, none⟩ (.int .i64 t))) := hTq2_3
    clear HBC1 HBR1 HBOC1 HBOR1 HR1 HT1 htq2_1 hbq2_1 hrq2_1 hTq2_1 hoq2_1C hoq2_1OC hoq2_1OR htq2_2 hbq2_2 hrq2_2 hTq2_2 hoq2_2R hoq2_2OC hoq2_2OR htq2_3 hbq2_3 hrq2_3 hTq2_3 hoq2_3C hoq2_3OC hoq2_3OR
    generalize (((w1.setCell ⟨g + 1, 3, none⟩ (.bool true)).setCell ⟨g, 2, none⟩ (.int .i64 st)).setCell ⟨g + 1, 5, none⟩ (.int .i64 t)) = w2 at *
    have xC0 : w2.cell? ⟨g, 0, none⟩ = some (.int .i64 s.most) := HBC2.out.cell 0
    have xC1 : w2.cell? ⟨g, 1, none⟩ = some (.int .i64 s.credit) := HBC2.out.cell 1
    have xC2 : w2.cell? ⟨g, 2, none⟩ = some (.int .i64 st) := HBC2.out.cell 2
    have xC3 : w2.cell? ⟨g, 3, none⟩ = some (.int .i64 s.sq) := HBC2.out.cell 3
    have xC4 : w2.cell? ⟨g, 4, none⟩ = some (.int .i64 s.peer) := HBC2.out.cell 4
    have xC5 : w2.cell? ⟨g, 5, none⟩ = some (.int .i64 s.cc) := HBC2.out.cell 5
    have xC6 : w2.cell? ⟨g, 6, none⟩ = some (.int .i64 s.ms) := HBC2.out.cell 6
    have xC7 : w2.cell? ⟨g, 7, none⟩ = some (.string s.data) := HBC2.out.cell 7
    have xR0 : w2.cell? ⟨g + 1, 0, none⟩ = some (.slice P.A1 r.sigs.length P.c1) := HBR2.out.cell 0
    have xR1 : w2.cell? ⟨g + 1, 1, none⟩ = some (.slice P.A2 r.units.length P.c2) := HBR2.out.cell 1
    have xR2 : w2.cell? ⟨g + 1, 2, none⟩ = some (.bool r.begins) := HBR2.out.cell 2
    have xR3 : w2.cell? ⟨g + 1, 3, none⟩ = some (.bool true) := HBR2.out.cell 3
    have xR4 : w2.cell? ⟨g + 1, 4, none⟩ = some (.int .i64 r.ms) := HBR2.out.cell 4
    have xR5 : w2.cell? ⟨g + 1, 5, none⟩ = some (.int .i64 t) := HBR2.out.cell 5
    have xOC0 : w2.cell? ⟨g + 1 + 1, 0, none⟩ = some (.int .i64 0) := HBOC2.out.cell 0
    have fOC0 := HBOC2.out.frozen 0
    have xOC1 : w2.cell? ⟨g + 1 + 1, 1, none⟩ = some (.int .i64 0) := HBOC2.out.cell 1
    have fOC1 := HBOC2.out.frozen 1
    have xOC2 : w2.cell? ⟨g + 1 + 1, 2, none⟩ = some (.int .i64 0) := HBOC2.out.cell 2
    have fOC2 := HBOC2.out.frozen 2
    have xOC3 : w2.cell? ⟨g + 1 + 1, 3, none⟩ = some (.int .i64 0) := HBOC2.out.cell 3
    have fOC3 := HBOC2.out.frozen 3
    have xOC4 : w2.cell? ⟨g + 1 + 1, 4, none⟩ = some (.int .i64 0) := HBOC2.out.cell 4
    have fOC4 := HBOC2.out.frozen 4
    have xOC5 : w2.cell? ⟨g + 1 + 1, 5, none⟩ = some (.int .i64 0) := HBOC2.out.cell 5
    have fOC5 := HBOC2.out.frozen 5
    have xOC6 : w2.cell? ⟨g + 1 + 1, 6, none⟩ = some (.int .i64 0) := HBOC2.out.cell 6
    have fOC6 := HBOC2.out.frozen 6
    have xOC7 : w2.cell? ⟨g + 1 + 1, 7, none⟩ = some (.string { data := #[] }) := HBOC2.out.cell 7
    have fOC7 := HBOC2.out.frozen 7
    have xOR0 : w2.cell? ⟨g + 1 + 1 + 1, 0, none⟩ = some (.slice none 0 0) := HBOR2.out.cell 0
    have fOR0 := HBOR2.out.frozen 0
    have xOR1 : w2.cell? ⟨g + 1 + 1 + 1, 1, none⟩ = some (.slice none 0 0) := HBOR2.out.cell 1
    have fOR1 := HBOR2.out.frozen 1
    have xOR2 : w2.cell? ⟨g + 1 + 1 + 1, 2, none⟩ = some (.bool false) := HBOR2.out.cell 2
    have fOR2 := HBOR2.out.frozen 2
    have xOR3 : w2.cell? ⟨g + 1 + 1 + 1, 3, none⟩ = some (.bool false) := HBOR2.out.cell 3
    have fOR3 := HBOR2.out.frozen 3
    have xOR4 : w2.cell? ⟨g + 1 + 1 + 1, 4, none⟩ = some (.int .i64 0) := HBOR2.out.cell 4
    have fOR4 := HBOR2.out.frozen 4
    have xOR5 : w2.cell? ⟨g + 1 + 1 + 1, 5, none⟩ = some (.int .i64 0) := HBOR2.out.cell 5
    have fOR5 := HBOR2.out.frozen 5
    go_wp2
    go_region
    have htq3_1 : Touch (· = g + 1 + 1) w2 ((((((((w2.setCell ⟨g + 1 + 1, 0, none⟩ (.int .i64 s.most)).setCell ⟨g + 1 + 1, 1, none⟩ (.int .i64 s.credit)).setCell ⟨g + 1 + 1, 2, none⟩ (.int .i64 st)).setCell ⟨g + 1 + 1, 3, none⟩ (.int .i64 s.sq)).setCell ⟨g + 1 + 1, 4, none⟩ (.int .i64 s.peer)).setCell ⟨g + 1 + 1, 5, none⟩ (.int .i64 s.cc)).setCell ⟨g + 1 + 1, 6, none⟩ (.int .i64 s.ms)).setCell ⟨g + 1 + 1, 7, none⟩ (.string s.data)) := (((((((((Touch.refl _ w2).st (S := (· = g + 1 + 1)) (u := .int .i64 s.most) (by exact rfl)).st (S := (· = g + 1 + 1)) (u := .int .i64 s.credit) (by exact rfl)).st (S := (· = g + 1 + 1)) (u := .int .i64 st) (by exact rfl)).st (S := (· = g + 1 + 1)) (u := .int .i64 s.sq) (by exact rfl)).st (S := (· = g + 1 + 1)) (u := .int .i64 s.peer) (by exact rfl)).st (S := (· = g + 1 + 1)) (u := .int .i64 s.cc) (by exact rfl)).st (S := (· = g + 1 + 1)) (u := .int .i64 s.ms) (by exact rfl)).st (S := (· = g + 1 + 1)) (u := .string s.data) (by exact rfl))
    have hbq3_1 : Blk ((((((((w2.setCell ⟨g + 1 + 1, 0, none⟩ (.int .i64 s.most)).setCell ⟨g + 1 + 1, 1, none⟩ (.int .i64 s.credit)).setCell ⟨g + 1 + 1, 2, none⟩ (.int .i64 st)).setCell ⟨g + 1 + 1, 3, none⟩ (.int .i64 s.sq)).setCell ⟨g + 1 + 1, 4, none⟩ (.int .i64 s.peer)).setCell ⟨g + 1 + 1, 5, none⟩ (.int .i64 s.cc)).setCell ⟨g + 1 + 1, 6, none⟩ (.int .i64 s.ms)).setCell ⟨g + 1 + 1, 7, none⟩ (.string s.data)) (g + 1 + 1) 59 [.int .i64 s.most, .int .i64 s.credit, .int .i64 st, .int .i64 s.sq, .int .i64 s.peer, .int .i64 s.cc, .int .i64 s.ms, .string s.data] := ((((((((HBOC2.out.set 0 (.int .i64 s.most)).set 1 (.int .i64 s.credit)).set 2 (.int .i64 st)).set 3 (.int .i64 s.sq)).set 4 (.int .i64 s.peer)).set 5 (.int .i64 s.cc)).set 6 (.int .i64 s.ms)).set 7 (.string s.data))
    have hoq3_1C := htq3_1.blk HBC2.out (by intro e; have e : g = g + 1 + 1 := e; omega)
    have hoq3_1R := htq3_1.blk HBR2.out (by intro e; have e : g + 1 = g + 1 + 1 := e; omega)
    have hoq3_1OR := htq3_1.blk HBOR2.out (by intro e; have e : g + 1 + 1 + 1 = g + 1 + 1 := e; omega)
    have hrq3_1 := HR2.out.touch htq3_1 (fun k e => by have e : k = g + 1 + 1 := e; rw [e]; exact HGOC.out)
    have hTq3_1 : Touch (OfAct K) w ((((((((w2.setCell ⟨g + 1 + 1, 0, none⟩ (.int .i64 s.most)).setCell ⟨g + 1 + 1, 1, none⟩ (.int .i64 s.credit)).setCell ⟨g + 1 + 1, 2, none⟩ (.int .i64 st)).setCell ⟨g + 1 + 1, 3, none⟩ (.int .i64 s.sq)).setCell ⟨g + 1 + 1, 4, none⟩ (.int .i64 s.peer)).setCell ⟨g + 1 + 1, 5, none⟩ (.int .i64 s.cc)).setCell ⟨g + 1 + 1, 6, none⟩ (.int .i64 s.ms)).setCell ⟨g + 1 + 1, 7, none⟩ (.string s.data)) := HT2.out.trans htq3_1 (fun k _ e => by have e : k = g + 1 + 1 := e; intro hk; have := HLIM.out k hk; omega)
    have htq3_2 : Touch (· = g + 1 + 1 + 1) ((((((((w2.setCell ⟨g + 1 + 1, 0, none⟩ (.int .i64 s.most)).setCell ⟨g + 1 + 1, 1, none⟩ (.int .i64 s.credit)).setCell ⟨g + 1 + 1, 2, none⟩ (.int .i64 st)).setCell ⟨g + 1 + 1, 3, none⟩ (.int .i64 s.sq)).setCell ⟨g + 1 + 1, 4, none⟩ (.int .i64 s.peer)).setCell ⟨g + 1 + 1, 5, none⟩ (.int .i64 s.cc)).setCell ⟨g + 1 + 1, 6, none⟩ (.int .i64 s.ms)).setCell ⟨g + 1 + 1, 7, none⟩ (.string s.data)) ((((((((((((((w2.setCell ⟨g + 1 + 1, 0, none⟩ (.int .i64 s.most)).setCell ⟨g + 1 + 1, 1, none⟩ (.int .i64 s.credit)).setCell ⟨g + 1 + 1, 2, none⟩ (.int .i64 st)).setCell ⟨g + 1 + 1, 3, none⟩ (.int .i64 s.sq)).setCell ⟨g + 1 + 1, 4, none⟩ (.int .i64 s.peer)).setCell ⟨g + 1 + 1, 5, none⟩ (.int .i64 s.cc)).setCell ⟨g + 1 + 1, 6, none⟩ (.int .i64 s.ms)).setCell ⟨g + 1 + 1, 7, none⟩ (.string s.data)).setCell ⟨g + 1 + 1 + 1, 0, none⟩ (.slice P.A1 r.sigs.length P.c1)).setCell ⟨g + 1 + 1 + 1, 1, none⟩ (.slice P.A2 r.units.length P.c2)).setCell ⟨g + 1 + 1 + 1, 2, none⟩ (.bool r.begins)).setCell ⟨g + 1 + 1 + 1, 3, none⟩ (.bool true)).setCell ⟨g + 1 + 1 + 1, 4, none⟩ (.int .i64 r.ms)).setCell ⟨g + 1 + 1 + 1, 5, none⟩ (.int .i64 t)) := (((((((Touch.refl _ ((((((((w2.setCell ⟨g + 1 + 1, 0, none⟩ (.int .i64 s.most)).setCell ⟨g + 1 + 1, 1, none⟩ (.int .i64 s.credit)).setCell ⟨g + 1 + 1, 2, none⟩ (.int .i64 st)).setCell ⟨g + 1 + 1, 3, none⟩ (.int .i64 s.sq)).setCell ⟨g + 1 + 1, 4, none⟩ (.int .i64 s.peer)).setCell ⟨g + 1 + 1, 5, none⟩ (.int .i64 s.cc)).setCell ⟨g + 1 + 1, 6, none⟩ (.int .i64 s.ms)).setCell ⟨g + 1 + 1, 7, none⟩ (.string s.data))).st (S := (· = g + 1 + 1 + 1)) (u := .slice P.A1 r.sigs.length P.c1) (by exact rfl)).st (S := (· = g + 1 + 1 + 1)) (u := .slice P.A2 r.units.length P.c2) (by exact rfl)).st (S := (· = g + 1 + 1 + 1)) (u := .bool r.begins) (by exact rfl)).st (S := (· = g + 1 + 1 + 1)) (u := .bool true) (by exact rfl)).st (S := (· = g + 1 + 1 + 1)) (u := .int .i64 r.ms) (by exact rfl)).st (S := (· = g + 1 + 1 + 1)) (u := .int .i64 t) (by exact rfl))
    have hbq3_2 : Blk ((((((((((((((w2.setCell ⟨g + 1 + 1, 0, none⟩ (.int .i64 s.most)).setCell ⟨g + 1 + 1, 1, none⟩ (.int .i64 s.credit)).setCell ⟨g + 1 + 1, 2, none⟩ (.int .i64 st)).setCell ⟨g + 1 + 1, 3, none⟩ (.int .i64 s.sq)).setCell ⟨g + 1 + 1, 4, none⟩ (.int .i64 s.peer)).setCell ⟨g + 1 + 1, 5, none⟩ (.int .i64 s.cc)).setCell ⟨g + 1 + 1, 6, none⟩ (.int .i64 s.ms)).setCell ⟨g + 1 + 1, 7, none⟩ (.string s.data)).setCell ⟨g + 1 + 1 + 1, 0, none⟩ (.slice P.A1 r.sigs.length P.c1)).setCell ⟨g + 1 + 1 + 1, 1, none⟩ (.slice P.A2 r.units.length P.c2)).setCell ⟨g + 1 + 1 + 1, 2, none⟩ (.bool r.begins)).setCell ⟨g + 1 + 1 + 1, 3, none⟩ (.bool true)).setCell ⟨g + 1 + 1 + 1, 4, none⟩ (.int .i64 r.ms)).setCell ⟨g + 1 + 1 + 1, 5, none⟩ (.int .i64 t)) (g + 1 + 1 + 1) 90 [.slice P.A1 r.sigs.length P.c1, .slice P.A2 r.units.length P.c2, .bool r.begins, .bool true, .int .i64 r.ms, .int .i64 t] := ((((((hoq3_1OR.set 0 (.slice P.A1 r.sigs.length P.c1)).set 1 (.slice P.A2 r.units.length P.c2)).set 2 (.bool r.begins)).set 3 (.bool true)).set 4 (.int .i64 r.ms)).set 5 (.int .i64 t))
    have hoq3_2C := htq3_2.blk hoq3_1C (by intro e; have e : g = g + 1 + 1 + 1 := e; omega)
    have hoq3_2R := htq3_2.blk hoq3_1R (by intro e; have e : g + 1 = g + 1 + 1 + 1 := e; omega)
    have hoq3_2OC := htq3_2.blk hbq3_1 (by intro e; have e : g + 1 + 1 = g + 1 + 1 + 1 := e; omega)
    have hrq3_2 := hrq3_1.touch htq3_2 (fun k e => by have e : k = g + 1 + 1 + 1 := e; rw [e]; exact HGOR.out)
    have hTq3_2 : Touch (OfAct K) w ((((((((((((((w2.setCell ⟨g + 1 + 1, 0, none⟩ (.int .i64 s.most)).setCell ⟨g + 1 + 1, 1, none⟩ (.int .i64 s.credit)).setCell ⟨g + 1 + 1, 2, none⟩ (.int .i64 st)).setCell ⟨g + 1 + 1, 3, none⟩ (.int .i64 s.sq)).setCell ⟨g + 1 + 1, 4, none⟩ (.int .i64 s.peer)).setCell ⟨g + 1 + 1, 5, none⟩ (.int .i64 s.cc)).setCell ⟨g + 1 + 1, 6, none⟩ (.int .i64 s.ms)).setCell ⟨g + 1 + 1, 7, none⟩ (.string s.data)).setCell ⟨g + 1 + 1 + 1, 0, none⟩ (.slice P.A1 r.sigs.length P.c1)).setCell ⟨g + 1 + 1 + 1, 1, none⟩ (.slice P.A2 r.units.length P.c2)).setCell ⟨g + 1 + 1 + 1, 2, none⟩ (.bool r.begins)).setCell ⟨g + 1 + 1 + 1, 3, none⟩ (.bool true)).setCell ⟨g + 1 + 1 + 1, 4, none⟩ (.int .i64 r.ms)).setCell ⟨g + 1 + 1 + 1, 5, none⟩ (.int .i64 t)) := hTq3_1.trans htq3_2 (fun k _ e => by have e : k = g + 1 + 1 + 1 := e; intro hk; have := HLIM.out k hk; omega)
    clear xC0 xC1 xC2 xC3 xC4 xC5 xC6 xC7 xR0 xR1 xR2 xR3 xR4 xR5 xOC0 fOC0 xOC1 fOC1 xOC2 fOC2 xOC3 fOC3 xOC4 fOC4 xOC5 fOC5 xOC6 fOC6 xOC7 fOC7 xOR0 fOR0 xOR1 fOR1 xOR2 fOR2 xOR3 fOR3 xOR4 fOR4 xOR5 fOR5
    have HBC3 : Hid (Blk ((((((((((((((w2.setCell ⟨g + 1 + 1, 0, none⟩ (.int .i64 s.most)).setCell ⟨g + 1 + 1, 1, none⟩ (.int .i64 s.credit)).setCell ⟨g + 1 + 1, 2, none⟩ (.int .i64 st)).setCell ⟨g + 1 + 1, 3, none⟩ (.int .i64 s.sq)).setCell ⟨g + 1 + 1, 4, none⟩ (.int .i64 s.peer)).setCell ⟨g + 1 + 1, 5, none⟩ (.int .i64 s.cc)).setCell ⟨g + 1 + 1, 6, none⟩ (.int .i64 s.ms)).setCell ⟨g + 1 + 1, 7, none⟩ (.string s.data)).setCell ⟨g + 1 + 1 + 1, 0, none⟩ (.slice P.A1 r.sigs.length P.c1)).setCell ⟨g + 1 + 1 + 1, 1, none⟩ (.slice P.A2 r.units.length P.c2)).setCell ⟨g + 1 + 1 + 1, 2, none⟩ (.bool r.begins)).setCell ⟨g + 1 + 1 + 1, 3, none⟩ (.bool true)).setCell ⟨g + 1 + 1 + 1, 4, none⟩ (.int .i64 r.ms)).setCell ⟨g + 1 + 1 + 1, 5, none⟩ (.int .i64 t)).drew (g) 59 [.int .i64 s.most, .int .i64 s.credit, .int .i64 st, .int .i64 s.sq, .int .i64 s.peer, .int .i64 s.cc, .int .i64 s.ms, .string s.data]) := Blk.drew hoq3_2C
    have HBR3 : Hid (Blk ((((((((((((((w2.setCell ⟨g + 1 + 1, 0, none⟩ (.int .i64 s.most)).setCell ⟨g + 1 + 1, 1, none⟩ (.int .i64 s.credit)).setCell ⟨g + 1 + 1, 2, none⟩ (.int .i64 st)).setCell ⟨g + 1 + 1, 3, none⟩ (.int .i64 s.sq)).setCell ⟨g + 1 + 1, 4, none⟩ (.int .i64 s.peer)).setCell ⟨g + 1 + 1, 5, none⟩ (.int .i64 s.cc)).setCell ⟨g + 1 + 1, 6, none⟩ (.int .i64 s.ms)).setCell ⟨g + 1 + 1, 7, none⟩ (.string s.data)).setCell ⟨g + 1 + 1 + 1, 0, none⟩ (.slice P.A1 r.sigs.length P.c1)).setCell ⟨g + 1 + 1 + 1, 1, none⟩ (.slice P.A2 r.units.length P.c2)).setCell ⟨g + 1 + 1 + 1, 2, none⟩ (.bool r.begins)).setCell ⟨g + 1 + 1 + 1, 3, none⟩ (.bool true)).setCell ⟨g + 1 + 1 + 1, 4, none⟩ (.int .i64 r.ms)).setCell ⟨g + 1 + 1 + 1, 5, none⟩ (.int .i64 t)).drew (g + 1) 90 [.slice P.A1 r.sigs.length P.c1, .slice P.A2 r.units.length P.c2, .bool r.begins, .bool true, .int .i64 r.ms, .int .i64 t]) := Blk.drew hoq3_2R
    have HBOC3 : Hid (Blk ((((((((((((((w2.setCell ⟨g + 1 + 1, 0, none⟩ (.int .i64 s.most)).setCell ⟨g + 1 + 1, 1, none⟩ (.int .i64 s.credit)).setCell ⟨g + 1 + 1, 2, none⟩ (.int .i64 st)).setCell ⟨g + 1 + 1, 3, none⟩ (.int .i64 s.sq)).setCell ⟨g + 1 + 1, 4, none⟩ (.int .i64 s.peer)).setCell ⟨g + 1 + 1, 5, none⟩ (.int .i64 s.cc)).setCell ⟨g + 1 + 1, 6, none⟩ (.int .i64 s.ms)).setCell ⟨g + 1 + 1, 7, none⟩ (.string s.data)).setCell ⟨g + 1 + 1 + 1, 0, none⟩ (.slice P.A1 r.sigs.length P.c1)).setCell ⟨g + 1 + 1 + 1, 1, none⟩ (.slice P.A2 r.units.length P.c2)).setCell ⟨g + 1 + 1 + 1, 2, none⟩ (.bool r.begins)).setCell ⟨g + 1 + 1 + 1, 3, none⟩ (.bool true)).setCell ⟨g + 1 + 1 + 1, 4, none⟩ (.int .i64 r.ms)).setCell ⟨g + 1 + 1 + 1, 5, none⟩ (.int .i64 t)).drew (g + 1 + 1) 59 [.int .i64 s.most, .int .i64 s.credit, .int .i64 st, .int .i64 s.sq, .int .i64 s.peer, .int .i64 s.cc, .int .i64 s.ms, .string s.data]) := Blk.drew hoq3_2OC
    have HBOR3 : Hid (Blk ((((((((((((((w2.setCell ⟨g + 1 + 1, 0, none⟩ (.int .i64 s.most)).setCell ⟨g + 1 + 1, 1, none⟩ (.int .i64 s.credit)).setCell ⟨g + 1 + 1, 2, none⟩ (.int .i64 st)).setCell ⟨g + 1 + 1, 3, none⟩ (.int .i64 s.sq)).setCell ⟨g + 1 + 1, 4, none⟩ (.int .i64 s.peer)).setCell ⟨g + 1 + 1, 5, none⟩ (.int .i64 s.cc)).setCell ⟨g + 1 + 1, 6, none⟩ (.int .i64 s.ms)).setCell ⟨g + 1 + 1, 7, none⟩ (.string s.data)).setCell ⟨g + 1 + 1 + 1, 0, none⟩ (.slice P.A1 r.sigs.length P.c1)).setCell ⟨g + 1 + 1 + 1, 1, none⟩ (.slice P.A2 r.units.length P.c2)).setCell ⟨g + 1 + 1 + 1, 2, none⟩ (.bool r.begins)).setCell ⟨g + 1 + 1 + 1, 3, none⟩ (.bool true)).setCell ⟨g + 1 + 1 + 1, 4, none⟩ (.int .i64 r.ms)).setCell ⟨g + 1 + 1 + 1, 5, none⟩ (.int .i64 t)).drew (g + 1 + 1 + 1) 90 [.slice P.A1 r.sigs.length P.c1, .slice P.A2 r.units.length P.c2, .bool r.begins, .bool true, .int .i64 r.ms, .int .i64 t]) := Blk.drew hbq3_2
    have HR3 := Lib.hid (RIn.old hrq3_2 (Touch.refl _ ((((((((((((((w2.setCell ⟨g + 1 + 1, 0, none⟩ (.int .i64 s.most)).setCell ⟨g + 1 + 1, 1, none⟩ (.int .i64 s.credit)).setCell ⟨g + 1 + 1, 2, none⟩ (.int .i64 st)).setCell ⟨g + 1 + 1, 3, none⟩ (.int .i64 s.sq)).setCell ⟨g + 1 + 1, 4, none⟩ (.int .i64 s.peer)).setCell ⟨g + 1 + 1, 5, none⟩ (.int .i64 s.cc)).setCell ⟨g + 1 + 1, 6, none⟩ (.int .i64 s.ms)).setCell ⟨g + 1 + 1, 7, none⟩ (.string s.data)).setCell ⟨g + 1 + 1 + 1, 0, none⟩ (.slice P.A1 r.sigs.length P.c1)).setCell ⟨g + 1 + 1 + 1, 1, none⟩ (.slice P.A2 r.units.length P.c2)).setCell ⟨g + 1 + 1 + 1, 2, none⟩ (.bool r.begins)).setCell ⟨g + 1 + 1 + 1, 3, none⟩ (.bool true)).setCell ⟨g + 1 + 1 + 1, 4, none⟩ (.int .i64 r.ms)).setCell ⟨g + 1 + 1 + 1, 5, none⟩ (.int .i64 t))).drew)
    have HT3 : Hid (Touch (OfAct K) w ((((((((((((((w2.setCell ⟨g + 1 + 1, 0, none⟩ (.int .i64 s.most)).setCell ⟨g + 1 + 1, 1, none⟩ (.int .i64 s.credit)).setCell ⟨g + 1 + 1, 2, none⟩ (.int .i64 st)).setCell ⟨g + 1 + 1, 3, none⟩ (.int .i64 s.sq)).setCell ⟨g + 1 + 1, 4, none⟩ (.int .i64 s.peer)).setCell ⟨g + 1 + 1, 5, none⟩ (.int .i64 s.cc)).setCell ⟨g + 1 + 1, 6, none⟩ (.int .i64 s.ms)).setCell ⟨g + 1 + 1, 7, none⟩ (.string s.data)).setCell ⟨g + 1 + 1 + 1, 0, none⟩ (.slice P.A1 r.sigs.length P.c1)).setCell ⟨g + 1 + 1 + 1, 1, none⟩ (.slice P.A2 r.units.length P.c2)).setCell ⟨g + 1 + 1 + 1, 2, none⟩ (.bool r.begins)).setCell ⟨g + 1 + 1 + 1, 3, none⟩ (.bool true)).setCell ⟨g + 1 + 1 + 1, 4, none⟩ (.int .i64 r.ms)).setCell ⟨g + 1 + 1 + 1, 5, none⟩ (.int .i64 t)).drew) := Touch.drew hTq3_2
    clear HBC2 HBR2 HBOC2 HBOR2 HR2 HT2 htq3_1 hbq3_1 hrq3_1 hTq3_1 hoq3_1C hoq3_1R hoq3_1OR htq3_2 hbq3_2 hrq3_2 hTq3_2 hoq3_2C hoq3_2R hoq3_2OC
    generalize ((((((((((((((w2.setCell ⟨g + 1 + 1, 0, none⟩ (.int .i64 s.most)).setCell ⟨g + 1 + 1, 1, none⟩ (.int .i64 s.credit)).setCell ⟨g + 1 + 1, 2, none⟩ (.int .i64 st)).setCell ⟨g + 1 + 1, 3, none⟩ (.int .i64 s.sq)).setCell ⟨g + 1 + 1, 4, none⟩ (.int .i64 s.peer)).setCell ⟨g + 1 + 1, 5, none⟩ (.int .i64 s.cc)).setCell ⟨g + 1 + 1, 6, none⟩ (.int .i64 s.ms)).setCell ⟨g + 1 + 1, 7, none⟩ (.string s.data)).setCell ⟨g + 1 + 1 + 1, 0, none⟩ (.slice P.A1 r.sigs.length P.c1)).setCell ⟨g + 1 + 1 + 1, 1, none⟩ (.slice P.A2 r.units.length P.c2)).setCell ⟨g + 1 + 1 + 1, 2, none⟩ (.bool r.begins)).setCell ⟨g + 1 + 1 + 1, 3, none⟩ (.bool true)).setCell ⟨g + 1 + 1 + 1, 4, none⟩ (.int .i64 r.ms)).setCell ⟨g + 1 + 1 + 1, 5, none⟩ (.int .i64 t)).drew = w3 at *
    have HX : Hid (∀ e, e = .returned (.tuple #[.agg #[.int .i64 s.most, .int .i64 s.credit, .int .i64 st, .int .i64 s.sq, .int .i64 s.peer, .int .i64 s.cc, .int .i64 s.ms, .string s.data], .agg #[.slice P.A1 r.sigs.length P.c1, .slice P.A2 r.units.length P.c2, .bool r.begins, .bool true, .int .i64 r.ms, .int .i64 t]]) → RPost K (n + 0) (Cn.toT (s, r) st t) w e w3) := fun e he => ⟨P, he.trans (by (unfold Cn.toT Cn.to; simp only [HTEN.out, Bool.or_true, Bool.or_false, if_neg HZ.out]; rfl)), by exact ((HR3.out.less HL.out).wide (by omega)).eq rfl rfl, HT3.out⟩
    have zOC0 : w3.cell? ⟨g + 1 + 1, 0, none⟩ = some (.int .i64 s.most) := HBOC3.out.cell 0
    have zOC1 : w3.cell? ⟨g + 1 + 1, 1, none⟩ = some (.int .i64 s.credit) := HBOC3.out.cell 1
    have zOC2 : w3.cell? ⟨g + 1 + 1, 2, none⟩ = some (.int .i64 st) := HBOC3.out.cell 2
    have zOC3 : w3.cell? ⟨g + 1 + 1, 3, none⟩ = some (.int .i64 s.sq) := HBOC3.out.cell 3
    have zOC4 : w3.cell? ⟨g + 1 + 1, 4, none⟩ = some (.int .i64 s.peer) := HBOC3.out.cell 4
    have zOC5 : w3.cell? ⟨g + 1 + 1, 5, none⟩ = some (.int .i64 s.cc) := HBOC3.out.cell 5
    have zOC6 : w3.cell? ⟨g + 1 + 1, 6, none⟩ = some (.int .i64 s.ms) := HBOC3.out.cell 6
    have zOC7 : w3.cell? ⟨g + 1 + 1, 7, none⟩ = some (.string s.data) := HBOC3.out.cell 7
    have zOR0 : w3.cell? ⟨g + 1 + 1 + 1, 0, none⟩ = some (.slice P.A1 r.sigs.length P.c1) := HBOR3.out.cell 0
    have zOR1 : w3.cell? ⟨g + 1 + 1 + 1, 1, none⟩ = some (.slice P.A2 r.units.length P.c2) := HBOR3.out.cell 1
    have zOR2 : w3.cell? ⟨g + 1 + 1 + 1, 2, none⟩ = some (.bool r.begins) := HBOR3.out.cell 2
    have zOR3 : w3.cell? ⟨g + 1 + 1 + 1, 3, none⟩ = some (.bool true) := HBOR3.out.cell 3
    have zOR4 : w3.cell? ⟨g + 1 + 1 + 1, 4, none⟩ = some (.int .i64 r.ms) := HBOR3.out.cell 4
    have zOR5 : w3.cell? ⟨g + 1 + 1 + 1, 5, none⟩ = some (.int .i64 t) := HBOR3.out.cell 5
    go_wp2
    exact bodyPost_ret (v := _) (by simp [results, Try.results69, go_sem, zOC0, zOC1, zOC2, zOC3, zOC4, zOC5, zOC6, zOC7, zOR0, zOR1, zOR2, zOR3, zOR4, zOR5]) rfl (HX.out _ rfl)
  have b10 : (S == 10) = false := by simpa using e10
  by_cases ez : t = 0
  · subst ez
    have HTEN : Hid ((s.state == 10) = false) := by unfold Hid; rw [HS.out]; exact b10
    go_upto_region 6 with (fail)
    have htq2_1 : Touch (· = g) w1 (w1.setCell ⟨g, 2, none⟩ (.int .i64 st)) := ((Touch.refl _ w1).st (S := (· = g)) (u := .int .i64 st) (by exact rfl))
    have hbq2_1 : Blk (w1.setCell ⟨g, 2, none⟩ (.int .i64 st)) (g) 59 [.int .i64 s.most, .int .i64 s.credit, .int .i64 st, .int .i64 s.sq, .int .i64 s.peer, .int .i64 s.cc, .int .i64 s.ms, .string s.data] := (HBC1.out.set 2 (.int .i64 st))
    have hoq2_1R := htq2_1.blk HBR1.out (by intro e; have e : g + 1 = g := e; omega)
    have hoq2_1OC := htq2_1.blk HBOC1.out (by intro e; have e : g + 1 + 1 = g := e; omega)
    have hoq2_1OR := htq2_1.blk HBOR1.out (by intro e; have e : g + 1 + 1 + 1 = g := e; omega)
    have hrq2_1 := HR1.out.touch htq2_1 (fun k e => by have e : k = g := e; rw [e]; exact HGC.out)
    have hTq2_1 : Touch (OfAct K) w (w1.setCell ⟨g, 2, none⟩ (.int .i64 st)) := HT1.out.trans htq2_1 (fun k _ e => by have e : k = g := e; intro hk; have := HLIM.out k hk; omega)
    clear xC0 fC0 xC1 fC1 xC2 fC2 xC3 fC3 xC4 fC4 xC5 fC5 xC6 fC6 xC7 fC7 xR0 fR0 xR1 fR1 xR2 fR2 xR3 fR3 xR4 fR4 xR5 fR5
    have HBC2 : Hid (Blk (w1.setCell ⟨g, 2, none⟩ (.int .i64 st)) (g) 59 [.int .i64 s.most, .int .i64 s.credit, .int .i64 st, .int .i64 s.sq, .int .i64 s.peer, .int .i64 s.cc, .int .i64 s.ms, .string s.data]) := hbq2_1
    have HBR2 : Hid (Blk (w1.setCell ⟨g, 2, none⟩ (.int .i64 st)) (g + 1) 90 [.slice P.A1 r.sigs.length P.c1, .slice P.A2 r.units.length P.c2, .bool r.begins, .bool r.ends, .int .i64 r.ms, .int .i64 r.timer]) := hoq2_1R
    have HBOC2 : Hid (Blk (w1.setCell ⟨g, 2, none⟩ (.int .i64 st)) (g + 1 + 1) 59 [.int .i64 0, .int .i64 0, .int .i64 0, .int .i64 0, .int .i64 0, .int .i64 0, .int .i64 0, .string { data := #[] }]) := hoq2_1OC
    have HBOR2 : Hid (Blk (w1.setCell ⟨g, 2, none⟩ (.int .i64 st)) (g + 1 + 1 + 1) 90 [.slice none 0 0, .slice none 0 0, .bool false, .bool false, .int .i64 0, .int .i64 0]) := hoq2_1OR
    have HR2 := Lib.hid hrq2_1
    have HT2 : Hid (Touch (OfAct K) w (w1.setCell ⟨g, 2, none⟩ (.int .i64 st))) := hTq2_1
    clear HBC1 HBR1 HBOC1 HBOR1 HR1 HT1 htq2_1 hbq2_1 hrq2_1 hTq2_1 hoq2_1R hoq2_1OC hoq2_1OR
    generalize (w1.setCell ⟨g, 2, none⟩ (.int .i64 st)) = w2 at *
    have xC0 : w2.cell? ⟨g, 0, none⟩ = some (.int .i64 s.most) := HBC2.out.cell 0
    have xC1 : w2.cell? ⟨g, 1, none⟩ = some (.int .i64 s.credit) := HBC2.out.cell 1
    have xC2 : w2.cell? ⟨g, 2, none⟩ = some (.int .i64 st) := HBC2.out.cell 2
    have xC3 : w2.cell? ⟨g, 3, none⟩ = some (.int .i64 s.sq) := HBC2.out.cell 3
    have xC4 : w2.cell? ⟨g, 4, none⟩ = some (.int .i64 s.peer) := HBC2.out.cell 4
    have xC5 : w2.cell? ⟨g, 5, none⟩ = some (.int .i64 s.cc) := HBC2.out.cell 5
    have xC6 : w2.cell? ⟨g, 6, none⟩ = some (.int .i64 s.ms) := HBC2.out.cell 6
    have xC7 : w2.cell? ⟨g, 7, none⟩ = some (.string s.data) := HBC2.out.cell 7
    have xR0 : w2.cell? ⟨g + 1, 0, none⟩ = some (.slice P.A1 r.sigs.length P.c1) := HBR2.out.cell 0
    have xR1 : w2.cell? ⟨g + 1, 1, none⟩ = some (.slice P.A2 r.units.length P.c2) := HBR2.out.cell 1
    have xR2 : w2.cell? ⟨g + 1, 2, none⟩ = some (.bool r.begins) := HBR2.out.cell 2
    have xR3 : w2.cell? ⟨g + 1, 3, none⟩ = some (.bool r.ends) := HBR2.out.cell 3
    have xR4 : w2.cell? ⟨g + 1, 4, none⟩ = some (.int .i64 r.ms) := HBR2.out.cell 4
    have xR5 : w2.cell? ⟨g + 1, 5, none⟩ = some (.int .i64 r.timer) := HBR2.out.cell 5
    have xOC0 : w2.cell? ⟨g + 1 + 1, 0, none⟩ = some (.int .i64 0) := HBOC2.out.cell 0
    have fOC0 := HBOC2.out.frozen 0
    have xOC1 : w2.cell? ⟨g + 1 + 1, 1, none⟩ = some (.int .i64 0) := HBOC2.out.cell 1
    have fOC1 := HBOC2.out.frozen 1
    have xOC2 : w2.cell? ⟨g + 1 + 1, 2, none⟩ = some (.int .i64 0) := HBOC2.out.cell 2
    have fOC2 := HBOC2.out.frozen 2
    have xOC3 : w2.cell? ⟨g + 1 + 1, 3, none⟩ = some (.int .i64 0) := HBOC2.out.cell 3
    have fOC3 := HBOC2.out.frozen 3
    have xOC4 : w2.cell? ⟨g + 1 + 1, 4, none⟩ = some (.int .i64 0) := HBOC2.out.cell 4
    have fOC4 := HBOC2.out.frozen 4
    have xOC5 : w2.cell? ⟨g + 1 + 1, 5, none⟩ = some (.int .i64 0) := HBOC2.out.cell 5
    have fOC5 := HBOC2.out.frozen 5
    have xOC6 : w2.cell? ⟨g + 1 + 1, 6, none⟩ = some (.int .i64 0) := HBOC2.out.cell 6
    have fOC6 := HBOC2.out.frozen 6
    have xOC7 : w2.cell? ⟨g + 1 + 1, 7, none⟩ = some (.string { data := #[] }) := HBOC2.out.cell 7
    have fOC7 := HBOC2.out.frozen 7
    have xOR0 : w2.cell? ⟨g + 1 + 1 + 1, 0, none⟩ = some (.slice none 0 0) := HBOR2.out.cell 0
    have fOR0 := HBOR2.out.frozen 0
    have xOR1 : w2.cell? ⟨g + 1 + 1 + 1, 1, none⟩ = some (.slice none 0 0) := HBOR2.out.cell 1
    have fOR1 := HBOR2.out.frozen 1
    have xOR2 : w2.cell? ⟨g + 1 + 1 + 1, 2, none⟩ = some (.bool false) := HBOR2.out.cell 2
    have fOR2 := HBOR2.out.frozen 2
    have xOR3 : w2.cell? ⟨g + 1 + 1 + 1, 3, none⟩ = some (.bool false) := HBOR2.out.cell 3
    have fOR3 := HBOR2.out.frozen 3
    have xOR4 : w2.cell? ⟨g + 1 + 1 + 1, 4, none⟩ = some (.int .i64 0) := HBOR2.out.cell 4
    have fOR4 := HBOR2.out.frozen 4
    have xOR5 : w2.cell? ⟨g + 1 + 1 + 1, 5, none⟩ = some (.int .i64 0) := HBOR2.out.cell 5
    have fOR5 := HBOR2.out.frozen 5
    go_wp2
    go_region
    have htq3_1 : Touch (· = g + 1 + 1) w2 ((((((((w2.setCell ⟨g + 1 + 1, 0, none⟩ (.int .i64 s.most)).setCell ⟨g + 1 + 1, 1, none⟩ (.int .i64 s.credit)).setCell ⟨g + 1 + 1, 2, none⟩ (.int .i64 st)).setCell ⟨g + 1 + 1, 3, none⟩ (.int .i64 s.sq)).setCell ⟨g + 1 + 1, 4, none⟩ (.int .i64 s.peer)).setCell ⟨g + 1 + 1, 5, none⟩ (.int .i64 s.cc)).setCell ⟨g + 1 + 1, 6, none⟩ (.int .i64 s.ms)).setCell ⟨g + 1 + 1, 7, none⟩ (.string s.data)) := (((((((((Touch.refl _ w2).st (S := (· = g + 1 + 1)) (u := .int .i64 s.most) (by exact rfl)).st (S := (· = g + 1 + 1)) (u := .int .i64 s.credit) (by exact rfl)).st (S := (· = g + 1 + 1)) (u := .int .i64 st) (by exact rfl)).st (S := (· = g + 1 + 1)) (u := .int .i64 s.sq) (by exact rfl)).st (S := (· = g + 1 + 1)) (u := .int .i64 s.peer) (by exact rfl)).st (S := (· = g + 1 + 1)) (u := .int .i64 s.cc) (by exact rfl)).st (S := (· = g + 1 + 1)) (u := .int .i64 s.ms) (by exact rfl)).st (S := (· = g + 1 + 1)) (u := .string s.data) (by exact rfl))
    have hbq3_1 : Blk ((((((((w2.setCell ⟨g + 1 + 1, 0, none⟩ (.int .i64 s.most)).setCell ⟨g + 1 + 1, 1, none⟩ (.int .i64 s.credit)).setCell ⟨g + 1 + 1, 2, none⟩ (.int .i64 st)).setCell ⟨g + 1 + 1, 3, none⟩ (.int .i64 s.sq)).setCell ⟨g + 1 + 1, 4, none⟩ (.int .i64 s.peer)).setCell ⟨g + 1 + 1, 5, none⟩ (.int .i64 s.cc)).setCell ⟨g + 1 + 1, 6, none⟩ (.int .i64 s.ms)).setCell ⟨g + 1 + 1, 7, none⟩ (.string s.data)) (g + 1 + 1) 59 [.int .i64 s.most, .int .i64 s.credit, .int .i64 st, .int .i64 s.sq, .int .i64 s.peer, .int .i64 s.cc, .int .i64 s.ms, .string s.data] := ((((((((HBOC2.out.set 0 (.int .i64 s.most)).set 1 (.int .i64 s.credit)).set 2 (.int .i64 st)).set 3 (.int .i64 s.sq)).set 4 (.int .i64 s.peer)).set 5 (.int .i64 s.cc)).set 6 (.int .i64 s.ms)).set 7 (.string s.data))
    have hoq3_1C := htq3_1.blk HBC2.out (by intro e; have e : g = g + 1 + 1 := e; omega)
    have hoq3_1R := htq3_1.blk HBR2.out (by intro e; have e : g + 1 = g + 1 + 1 := e; omega)
    have hoq3_1OR := htq3_1.blk HBOR2.out (by intro e; have e : g + 1 + 1 + 1 = g + 1 + 1 := e; omega)
    have hrq3_1 := HR2.out.touch htq3_1 (fun k e => by have e : k = g + 1 + 1 := e; rw [e]; exact HGOC.out)
    have hTq3_1 : Touch (OfAct K) w ((((((((w2.setCell ⟨g + 1 + 1, 0, none⟩ (.int .i64 s.most)).setCell ⟨g + 1 + 1, 1, none⟩ (.int .i64 s.credit)).setCell ⟨g + 1 + 1, 2, none⟩ (.int .i64 st)).setCell ⟨g + 1 + 1, 3, none⟩ (.int .i64 s.sq)).setCell ⟨g + 1 + 1, 4, none⟩ (.int .i64 s.peer)).setCell ⟨g + 1 + 1, 5, none⟩ (.int .i64 s.cc)).setCell ⟨g + 1 + 1, 6, none⟩ (.int .i64 s.ms)).setCell ⟨g + 1 + 1, 7, none⟩ (.string s.data)) := HT2.out.trans htq3_1 (fun k _ e => by have e : k = g + 1 + 1 := e; intro hk; have := HLIM.out k hk; omega)
    have htq3_2 : Touch (· = g + 1 + 1 + 1) ((((((((w2.setCell ⟨g + 1 + 1, 0, none⟩ (.int .i64 s.most)).setCell ⟨g + 1 + 1, 1, none⟩ (.int .i64 s.credit)).setCell ⟨g + 1 + 1, 2, none⟩ (.int .i64 st)).setCell ⟨g + 1 + 1, 3, none⟩ (.int .i64 s.sq)).setCell ⟨g + 1 + 1, 4, none⟩ (.int .i64 s.peer)).setCell ⟨g + 1 + 1, 5, none⟩ (.int .i64 s.cc)).setCell ⟨g + 1 + 1, 6, none⟩ (.int .i64 s.ms)).setCell ⟨g + 1 + 1, 7, none⟩ (.string s.data)) ((((((((((((((w2.setCell ⟨g + 1 + 1, 0, none⟩ (.int .i64 s.most)).setCell ⟨g + 1 + 1, 1, none⟩ (.int .i64 s.credit)).setCell ⟨g + 1 + 1, 2, none⟩ (.int .i64 st)).setCell ⟨g + 1 + 1, 3, none⟩ (.int .i64 s.sq)).setCell ⟨g + 1 + 1, 4, none⟩ (.int .i64 s.peer)).setCell ⟨g + 1 + 1, 5, none⟩ (.int .i64 s.cc)).setCell ⟨g + 1 + 1, 6, none⟩ (.int .i64 s.ms)).setCell ⟨g + 1 + 1, 7, none⟩ (.string s.data)).setCell ⟨g + 1 + 1 + 1, 0, none⟩ (.slice P.A1 r.sigs.length P.c1)).setCell ⟨g + 1 + 1 + 1, 1, none⟩ (.slice P.A2 r.units.length P.c2)).setCell ⟨g + 1 + 1 + 1, 2, none⟩ (.bool r.begins)).setCell ⟨g + 1 + 1 + 1, 3, none⟩ (.bool r.ends)).setCell ⟨g + 1 + 1 + 1, 4, none⟩ (.int .i64 r.ms)).setCell ⟨g + 1 + 1 + 1, 5, none⟩ (.int .i64 r.timer)) := (((((((Touch.refl _ ((((((((w2.setCell ⟨g + 1 + 1, 0, none⟩ (.int .i64 s.most)).setCell ⟨g + 1 + 1, 1, none⟩ (.int .i64 s.credit)).setCell ⟨g + 1 + 1, 2, none⟩ (.int .i64 st)).setCell ⟨g + 1 + 1, 3, none⟩ (.int .i64 s.sq)).setCell ⟨g + 1 + 1, 4, none⟩ (.int .i64 s.peer)).setCell ⟨g + 1 + 1, 5, none⟩ (.int .i64 s.cc)).setCell ⟨g + 1 + 1, 6, none⟩ (.int .i64 s.ms)).setCell ⟨g + 1 + 1, 7, none⟩ (.string s.data))).st (S := (· = g + 1 + 1 + 1)) (u := .slice P.A1 r.sigs.length P.c1) (by exact rfl)).st (S := (· = g + 1 + 1 + 1)) (u := .slice P.A2 r.units.length P.c2) (by exact rfl)).st (S := (· = g + 1 + 1 + 1)) (u := .bool r.begins) (by exact rfl)).st (S := (· = g + 1 + 1 + 1)) (u := .bool r.ends) (by exact rfl)).st (S := (· = g + 1 + 1 + 1)) (u := .int .i64 r.ms) (by exact rfl)).st (S := (· = g + 1 + 1 + 1)) (u := .int .i64 r.timer) (by exact rfl))
    have hbq3_2 : Blk ((((((((((((((w2.setCell ⟨g + 1 + 1, 0, none⟩ (.int .i64 s.most)).setCell ⟨g + 1 + 1, 1, none⟩ (.int .i64 s.credit)).setCell ⟨g + 1 + 1, 2, none⟩ (.int .i64 st)).setCell ⟨g + 1 + 1, 3, none⟩ (.int .i64 s.sq)).setCell ⟨g + 1 + 1, 4, none⟩ (.int .i64 s.peer)).setCell ⟨g + 1 + 1, 5, none⟩ (.int .i64 s.cc)).setCell ⟨g + 1 + 1, 6, none⟩ (.int .i64 s.ms)).setCell ⟨g + 1 + 1, 7, none⟩ (.string s.data)).setCell ⟨g + 1 + 1 + 1, 0, none⟩ (.slice P.A1 r.sigs.length P.c1)).setCell ⟨g + 1 + 1 + 1, 1, none⟩ (.slice P.A2 r.units.length P.c2)).setCell ⟨g + 1 + 1 + 1, 2, none⟩ (.bool r.begins)).setCell ⟨g + 1 + 1 + 1, 3, none⟩ (.bool r.ends)).setCell ⟨g + 1 + 1 + 1, 4, none⟩ (.int .i64 r.ms)).setCell ⟨g + 1 + 1 + 1, 5, none⟩ (.int .i64 r.timer)) (g + 1 + 1 + 1) 90 [.slice P.A1 r.sigs.length P.c1, .slice P.A2 r.units.length P.c2, .bool r.begins, .bool r.ends, .int .i64 r.ms, .int .i64 r.timer] := ((((((hoq3_1OR.set 0 (.slice P.A1 r.sigs.length P.c1)).set 1 (.slice P.A2 r.units.length P.c2)).set 2 (.bool r.begins)).set 3 (.bool r.ends)).set 4 (.int .i64 r.ms)).set 5 (.int .i64 r.timer))
    have hoq3_2C := htq3_2.blk hoq3_1C (by intro e; have e : g = g + 1 + 1 + 1 := e; omega)
    have hoq3_2R := htq3_2.blk hoq3_1R (by intro e; have e : g + 1 = g + 1 + 1 + 1 := e; omega)
    have hoq3_2OC := htq3_2.blk hbq3_1 (by intro e; have e : g + 1 + 1 = g + 1 + 1 + 1 := e; omega)
    have hrq3_2 := hrq3_1.touch htq3_2 (fun k e => by have e : k = g + 1 + 1 + 1 := e; rw [e]; exact HGOR.out)
    have hTq3_2 : Touch (OfAct K) w ((((((((((((((w2.setCell ⟨g + 1 + 1, 0, none⟩ (.int .i64 s.most)).setCell ⟨g + 1 + 1, 1, none⟩ (.int .i64 s.credit)).setCell ⟨g + 1 + 1, 2, none⟩ (.int .i64 st)).setCell ⟨g + 1 + 1, 3, none⟩ (.int .i64 s.sq)).setCell ⟨g + 1 + 1, 4, none⟩ (.int .i64 s.peer)).setCell ⟨g + 1 + 1, 5, none⟩ (.int .i64 s.cc)).setCell ⟨g + 1 + 1, 6, none⟩ (.int .i64 s.ms)).setCell ⟨g + 1 + 1, 7, none⟩ (.string s.data)).setCell ⟨g + 1 + 1 + 1, 0, none⟩ (.slice P.A1 r.sigs.length P.c1)).setCell ⟨g + 1 + 1 + 1, 1, none⟩ (.slice P.A2 r.units.length P.c2)).setCell ⟨g + 1 + 1 + 1, 2, none⟩ (.bool r.begins)).setCell ⟨g + 1 + 1 + 1, 3, none⟩ (.bool r.ends)).setCell ⟨g + 1 + 1 + 1, 4, none⟩ (.int .i64 r.ms)).setCell ⟨g + 1 + 1 + 1, 5, none⟩ (.int .i64 r.timer)) := hTq3_1.trans htq3_2 (fun k _ e => by have e : k = g + 1 + 1 + 1 := e; intro hk; have := HLIM.out k hk; omega)
    clear xC0 xC1 xC2 xC3 xC4 xC5 xC6 xC7 xR0 xR1 xR2 xR3 xR4 xR5 xOC0 fOC0 xOC1 fOC1 xOC2 fOC2 xOC3 fOC3 xOC4 fOC4 xOC5 fOC5 xOC6 fOC6 xOC7 fOC7 xOR0 fOR0 xOR1 fOR1 xOR2 fOR2 xOR3 fOR3 xOR4 fOR4 xOR5 fOR5
    have HBC3 : Hid (Blk ((((((((((((((w2.setCell ⟨g + 1 + 1, 0, none⟩ (.int .i64 s.most)).setCell ⟨g + 1 + 1, 1, none⟩ (.int .i64 s.credit)).setCell ⟨g + 1 + 1, 2, none⟩ (.int .i64 st)).setCell ⟨g + 1 + 1, 3, none⟩ (.int .i64 s.sq)).setCell ⟨g + 1 + 1, 4, none⟩ (.int .i64 s.peer)).setCell ⟨g + 1 + 1, 5, none⟩ (.int .i64 s.cc)).setCell ⟨g + 1 + 1, 6, none⟩ (.int .i64 s.ms)).setCell ⟨g + 1 + 1, 7, none⟩ (.string s.data)).setCell ⟨g + 1 + 1 + 1, 0, none⟩ (.slice P.A1 r.sigs.length P.c1)).setCell ⟨g + 1 + 1 + 1, 1, none⟩ (.slice P.A2 r.units.length P.c2)).setCell ⟨g + 1 + 1 + 1, 2, none⟩ (.bool r.begins)).setCell ⟨g + 1 + 1 + 1, 3, none⟩ (.bool r.ends)).setCell ⟨g + 1 + 1 + 1, 4, none⟩ (.int .i64 r.ms)).setCell ⟨g + 1 + 1 + 1, 5, none⟩ (.int .i64 r.timer)).drew (g) 59 [.int .i64 s.most, .int .i64 s.credit, .int .i64 st, .int .i64 s.sq, .int .i64 s.peer, .int .i64 s.cc, .int .i64 s.ms, .string s.data]) := Blk.drew hoq3_2C
    have HBR3 : Hid (Blk ((((((((((((((w2.setCell ⟨g + 1 + 1, 0, none⟩ (.int .i64 s.most)).setCell ⟨g + 1 + 1, 1, none⟩ (.int .i64 s.credit)).setCell ⟨g + 1 + 1, 2, none⟩ (.int .i64 st)).setCell ⟨g + 1 + 1, 3, none⟩ (.int .i64 s.sq)).setCell ⟨g + 1 + 1, 4, none⟩ (.int .i64 s.peer)).setCell ⟨g + 1 + 1, 5, none⟩ (.int .i64 s.cc)).setCell ⟨g + 1 + 1, 6, none⟩ (.int .i64 s.ms)).setCell ⟨g + 1 + 1, 7, none⟩ (.string s.data)).setCell ⟨g + 1 + 1 + 1, 0, none⟩ (.slice P.A1 r.sigs.length P.c1)).setCell ⟨g + 1 + 1 + 1, 1, none⟩ (.slice P.A2 r.units.length P.c2)).setCell ⟨g + 1 + 1 + 1, 2, none⟩ (.bool r.begins)).setCell ⟨g + 1 + 1 + 1, 3, none⟩ (.bool r.ends)).setCell ⟨g + 1 + 1 + 1, 4, none⟩ (.int .i64 r.ms)).setCell ⟨g + 1 + 1 + 1, 5, none⟩ (.int .i64 r.timer)).drew (g + 1) 90 [.slice P.A1 r.sigs.length P.c1, .slice P.A2 r.units.length P.c2, .bool r.begins, .bool r.ends, .int .i64 r.ms, .int .i64 r.timer]) := Blk.drew hoq3_2R
    have HBOC3 : Hid (Blk ((((((((((((((w2.setCell ⟨g + 1 + 1, 0, none⟩ (.int .i64 s.most)).setCell ⟨g + 1 + 1, 1, none⟩ (.int .i64 s.credit)).setCell ⟨g + 1 + 1, 2, none⟩ (.int .i64 st)).setCell ⟨g + 1 + 1, 3, none⟩ (.int .i64 s.sq)).setCell ⟨g + 1 + 1, 4, none⟩ (.int .i64 s.peer)).setCell ⟨g + 1 + 1, 5, none⟩ (.int .i64 s.cc)).setCell ⟨g + 1 + 1, 6, none⟩ (.int .i64 s.ms)).setCell ⟨g + 1 + 1, 7, none⟩ (.string s.data)).setCell ⟨g + 1 + 1 + 1, 0, none⟩ (.slice P.A1 r.sigs.length P.c1)).setCell ⟨g + 1 + 1 + 1, 1, none⟩ (.slice P.A2 r.units.length P.c2)).setCell ⟨g + 1 + 1 + 1, 2, none⟩ (.bool r.begins)).setCell ⟨g + 1 + 1 + 1, 3, none⟩ (.bool r.ends)).setCell ⟨g + 1 + 1 + 1, 4, none⟩ (.int .i64 r.ms)).setCell ⟨g + 1 + 1 + 1, 5, none⟩ (.int .i64 r.timer)).drew (g + 1 + 1) 59 [.int .i64 s.most, .int .i64 s.credit, .int .i64 st, .int .i64 s.sq, .int .i64 s.peer, .int .i64 s.cc, .int .i64 s.ms, .string s.data]) := Blk.drew hoq3_2OC
    have HBOR3 : Hid (Blk ((((((((((((((w2.setCell ⟨g + 1 + 1, 0, none⟩ (.int .i64 s.most)).setCell ⟨g + 1 + 1, 1, none⟩ (.int .i64 s.credit)).setCell ⟨g + 1 + 1, 2, none⟩ (.int .i64 st)).setCell ⟨g + 1 + 1, 3, none⟩ (.int .i64 s.sq)).setCell ⟨g + 1 + 1, 4, none⟩ (.int .i64 s.peer)).setCell ⟨g + 1 + 1, 5, none⟩ (.int .i64 s.cc)).setCell ⟨g + 1 + 1, 6, none⟩ (.int .i64 s.ms)).setCell ⟨g + 1 + 1, 7, none⟩ (.string s.data)).setCell ⟨g + 1 + 1 + 1, 0, none⟩ (.slice P.A1 r.sigs.length P.c1)).setCell ⟨g + 1 + 1 + 1, 1, none⟩ (.slice P.A2 r.units.length P.c2)).setCell ⟨g + 1 + 1 + 1, 2, none⟩ (.bool r.begins)).setCell ⟨g + 1 + 1 + 1, 3, none⟩ (.bool r.ends)).setCell ⟨g + 1 + 1 + 1, 4, none⟩ (.int .i64 r.ms)).setCell ⟨g + 1 + 1 + 1, 5, none⟩ (.int .i64 r.timer)).drew (g + 1 + 1 + 1) 90 [.slice P.A1 r.sigs.length P.c1, .slice P.A2 r.units.length P.c2, .bool r.begins, .bool r.ends, .int .i64 r.ms, .int .i64 r.timer]) := Blk.drew hbq3_2
    have HR3 := Lib.hid (RIn.old hrq3_2 (Touch.refl _ ((((((((((((((w2.setCell ⟨g + 1 + 1, 0, none⟩ (.int .i64 s.most)).setCell ⟨g + 1 + 1, 1, none⟩ (.int .i64 s.credit)).setCell ⟨g + 1 + 1, 2, none⟩ (.int .i64 st)).setCell ⟨g + 1 + 1, 3, none⟩ (.int .i64 s.sq)).setCell ⟨g + 1 + 1, 4, none⟩ (.int .i64 s.peer)).setCell ⟨g + 1 + 1, 5, none⟩ (.int .i64 s.cc)).setCell ⟨g + 1 + 1, 6, none⟩ (.int .i64 s.ms)).setCell ⟨g + 1 + 1, 7, none⟩ (.string s.data)).setCell ⟨g + 1 + 1 + 1, 0, none⟩ (.slice P.A1 r.sigs.length P.c1)).setCell ⟨g + 1 + 1 + 1, 1, none⟩ (.slice P.A2 r.units.length P.c2)).setCell ⟨g + 1 + 1 + 1, 2, none⟩ (.bool r.begins)).setCell ⟨g + 1 + 1 + 1, 3, none⟩ (.bool r.ends)).setCell ⟨g + 1 + 1 + 1, 4, none⟩ (.int .i64 r.ms)).setCell ⟨g + 1 + 1 + 1, 5, none⟩ (.int .i64 r.timer))).drew)
    have HT3 : Hid (Touch (OfAct K) w ((((((((((((((w2.setCell ⟨g + 1 + 1, 0, none⟩ (.int .i64 s.most)).setCell ⟨g + 1 + 1, 1, none⟩ (.int .i64 s.credit)).setCell ⟨g + 1 + 1, 2, none⟩ (.int .i64 st)).setCell ⟨g + 1 + 1, 3, none⟩ (.int .i64 s.sq)).setCell ⟨g + 1 + 1, 4, none⟩ (.int .i64 s.peer)).setCell ⟨g + 1 + 1, 5, none⟩ (.int .i64 s.cc)).setCell ⟨g + 1 + 1, 6, none⟩ (.int .i64 s.ms)).setCell ⟨g + 1 + 1, 7, none⟩ (.string s.data)).setCell ⟨g + 1 + 1 + 1, 0, none⟩ (.slice P.A1 r.sigs.length P.c1)).setCell ⟨g + 1 + 1 + 1, 1, none⟩ (.slice P.A2 r.units.length P.c2)).setCell ⟨g + 1 + 1 + 1, 2, none⟩ (.bool r.begins)).setCell ⟨g + 1 + 1 + 1, 3, none⟩ (.bool r.ends)).setCell ⟨g + 1 + 1 + 1, 4, none⟩ (.int .i64 r.ms)).setCell ⟨g + 1 + 1 + 1, 5, none⟩ (.int .i64 r.timer)).drew) := Touch.drew hTq3_2
    clear HBC2 HBR2 HBOC2 HBOR2 HR2 HT2 htq3_1 hbq3_1 hrq3_1 hTq3_1 hoq3_1C hoq3_1R hoq3_1OR htq3_2 hbq3_2 hrq3_2 hTq3_2 hoq3_2C hoq3_2R hoq3_2OC
    generalize ((((((((((((((w2.setCell ⟨g + 1 + 1, 0, none⟩ (.int .i64 s.most)).setCell ⟨g + 1 + 1, 1, none⟩ (.int .i64 s.credit)).setCell ⟨g + 1 + 1, 2, none⟩ (.int .i64 st)).setCell ⟨g + 1 + 1, 3, none⟩ (.int .i64 s.sq)).setCell ⟨g + 1 + 1, 4, none⟩ (.int .i64 s.peer)).setCell ⟨g + 1 + 1, 5, none⟩ (.int .i64 s.cc)).setCell ⟨g + 1 + 1, 6, none⟩ (.int .i64 s.ms)).setCell ⟨g + 1 + 1, 7, none⟩ (.string s.data)).setCell ⟨g + 1 + 1 + 1, 0, none⟩ (.slice P.A1 r.sigs.length P.c1)).setCell ⟨g + 1 + 1 + 1, 1, none⟩ (.slice P.A2 r.units.length P.c2)).setCell ⟨g + 1 + 1 + 1, 2, none⟩ (.bool r.begins)).setCell ⟨g + 1 + 1 + 1, 3, none⟩ (.bool r.ends)).setCell ⟨g + 1 + 1 + 1, 4, none⟩ (.int .i64 r.ms)).setCell ⟨g + 1 + 1 + 1, 5, none⟩ (.int .i64 r.timer)).drew = w3 at *
    have HX : Hid (∀ e, e = .returned (.tuple #[.agg #[.int .i64 s.most, .int .i64 s.credit, .int .i64 st, .int .i64 s.sq, .int .i64 s.peer, .int .i64 s.cc, .int .i64 s.ms, .string s.data], .agg #[.slice P.A1 r.sigs.length P.c1, .slice P.A2 r.units.length P.c2, .bool r.begins, .bool r.ends, .int .i64 r.ms, .int .i64 r.timer]]) → RPost K (n + 0) (Cn.toT (s, r) st 0) w e w3) := fun e he => ⟨P, he.trans (by (unfold Cn.toT Cn.to; simp only [HTEN.out, Bool.or_true, Bool.or_false]; rfl)), by exact ((HR3.out.less HL.out).wide (by omega)).eq rfl rfl, HT3.out⟩
    have zOC0 : w3.cell? ⟨g + 1 + 1, 0, none⟩ = some (.int .i64 s.most) := HBOC3.out.cell 0
    have zOC1 : w3.cell? ⟨g + 1 + 1, 1, none⟩ = some (.int .i64 s.credit) := HBOC3.out.cell 1
    have zOC2 : w3.cell? ⟨g + 1 + 1, 2, none⟩ = some (.int .i64 st) := HBOC3.out.cell 2
    have zOC3 : w3.cell? ⟨g + 1 + 1, 3, none⟩ = some (.int .i64 s.sq) := HBOC3.out.cell 3
    have zOC4 : w3.cell? ⟨g + 1 + 1, 4, none⟩ = some (.int .i64 s.peer) := HBOC3.out.cell 4
    have zOC5 : w3.cell? ⟨g + 1 + 1, 5, none⟩ = some (.int .i64 s.cc) := HBOC3.out.cell 5
    have zOC6 : w3.cell? ⟨g + 1 + 1, 6, none⟩ = some (.int .i64 s.ms) := HBOC3.out.cell 6
    have zOC7 : w3.cell? ⟨g + 1 + 1, 7, none⟩ = some (.string s.data) := HBOC3.out.cell 7
    have zOR0 : w3.cell? ⟨g + 1 + 1 + 1, 0, none⟩ = some (.slice P.A1 r.sigs.length P.c1) := HBOR3.out.cell 0
    have zOR1 : w3.cell? ⟨g + 1 + 1 + 1, 1, none⟩ = some (.slice P.A2 r.units.length P.c2) := HBOR3.out.cell 1
    have zOR2 : w3.cell? ⟨g + 1 + 1 + 1, 2, none⟩ = some (.bool r.begins) := HBOR3.out.cell 2
    have zOR3 : w3.cell? ⟨g + 1 + 1 + 1, 3, none⟩ = some (.bool r.ends) := HBOR3.out.cell 3
    have zOR4 : w3.cell? ⟨g + 1 + 1 + 1, 4, none⟩ = some (.int .i64 r.ms) := HBOR3.out.cell 4
    have zOR5 : w3.cell? ⟨g + 1 + 1 + 1, 5, none⟩ = some (.int .i64 r.timer) := HBOR3.out.cell 5
    go_wp2
    exact bodyPost_ret (v := _) (by simp [results, Try.results69, go_sem, zOC0, zOC1, zOC2, zOC3, zOC4, zOC5, zOC6, zOC7, zOR0, zOR1, zOR2, zOR3, zOR4, zOR5]) rfl (HX.out _ rfl)
  have bz : (t != 0) = true := by simpa using ez
  have HZ := Lib.hid ez
  clear ez
  have HTEN : Hid ((s.state == 10) = false) := by unfold Hid; rw [HS.out]; exact b10
  go_upto_region 6 with (fail)
  have htq2_1 : Touch (· = g) w1 (w1.setCell ⟨g, 2, none⟩ (.int .i64 st)) := ((Touch.refl _ w1).st (S := (· = g)) (u := .int .i64 st) (by exact rfl))
  have hbq2_1 : Blk (w1.setCell ⟨g, 2, none⟩ (.int .i64 st)) (g) 59 [.int .i64 s.most, .int .i64 s.credit, .int .i64 st, .int .i64 s.sq, .int .i64 s.peer, .int .i64 s.cc, .int .i64 s.ms, .string s.data] := (HBC1.out.set 2 (.int .i64 st))
  have hoq2_1R := htq2_1.blk HBR1.out (by intro e; have e : g + 1 = g := e; omega)
  have hoq2_1OC := htq2_1.blk HBOC1.out (by intro e; have e : g + 1 + 1 = g := e; omega)
  have hoq2_1OR := htq2_1.blk HBOR1.out (by intro e; have e : g + 1 + 1 + 1 = g := e; omega)
  have hrq2_1 := HR1.out.touch htq2_1 (fun k e => by have e : k = g := e; rw [e]; exact HGC.out)
  have hTq2_1 : Touch (OfAct K) w (w1.setCell ⟨g, 2, none⟩ (.int .i64 st)) := HT1.out.trans htq2_1 (fun k _ e => by have e : k = g := e; intro hk; have := HLIM.out k hk; omega)
  have htq2_2 : Touch (· = g + 1) (w1.setCell ⟨g, 2, none⟩ (.int .i64 st)) ((w1.setCell ⟨g, 2, none⟩ (.int .i64 st)).setCell ⟨g + 1, 5, none⟩ (.int .i64 t)) := ((Touch.refl _ (w1.setCell ⟨g, 2, none⟩ (.int .i64 st))).st (S := (· = g + 1)) (u := .int .i64 t) (by exact rfl))
  have hbq2_2 : Blk ((w1.setCell ⟨g, 2, none⟩ (.int .i64 st)).setCell ⟨g + 1, 5, none⟩ (.int .i64 t)) (g + 1) 90 [.slice P.A1 r.sigs.length P.c1, .slice P.A2 r.units.length P.c2, .bool r.begins, .bool r.ends, .int .i64 r.ms, .int .i64 t] := (hoq2_1R.set 5 (.int .i64 t))
  have hoq2_2C := htq2_2.blk hbq2_1 (by intro e; have e : g = g + 1 := e; omega)
  have hoq2_2OC := htq2_2.blk hoq2_1OC (by intro e; have e : g + 1 + 1 = g + 1 := e; omega)
  have hoq2_2OR := htq2_2.blk hoq2_1OR (by intro e; have e : g + 1 + 1 + 1 = g + 1 := e; omega)
  have hrq2_2 := hrq2_1.touch htq2_2 (fun k e => by have e : k = g + 1 := e; rw [e]; exact HGR.out)
  have hTq2_2 : Touch (OfAct K) w ((w1.setCell ⟨g, 2, none⟩ (.int .i64 st)).setCell ⟨g + 1, 5, none⟩ (.int .i64 t)) := hTq2_1.trans htq2_2 (fun k _ e => by have e : k = g + 1 := e; intro hk; have := HLIM.out k hk; omega)
  clear xC0 fC0 xC1 fC1 xC2 fC2 xC3 fC3 xC4 fC4 xC5 fC5 xC6 fC6 xC7 fC7 xR0 fR0 xR1 fR1 xR2 fR2 xR3 fR3 xR4 fR4 xR5 fR5
  have HBC2 : Hid (Blk ((w1.setCell ⟨g, 2, none⟩ (.int .i64 st)).setCell ⟨g + 1, 5, none⟩ (.int .i64 t)) (g) 59 [.int .i64 s.most, .int .i64 s.credit, .int .i64 st, .int .i64 s.sq, .int .i64 s.peer, .int .i64 s.cc, .int .i64 s.ms, .string s.data]) := hoq2_2C
  have HBR2 : Hid (Blk ((w1.setCell ⟨g, 2, none⟩ (.int .i64 st)).setCell ⟨g + 1, 5, none⟩ (.int .i64 t)) (g + 1) 90 [.slice P.A1 r.sigs.length P.c1, .slice P.A2 r.units.length P.c2, .bool r.begins, .bool r.ends, .int .i64 r.ms, .int .i64 t]) := hbq2_2
  have HBOC2 : Hid (Blk ((w1.setCell ⟨g, 2, none⟩ (.int .i64 st)).setCell ⟨g + 1, 5, none⟩ (.int .i64 t)) (g + 1 + 1) 59 [.int .i64 0, .int .i64 0, .int .i64 0, .int .i64 0, .int .i64 0, .int .i64 0, .int .i64 0, .string { data := #[] }]) := hoq2_2OC
  have HBOR2 : Hid (Blk ((w1.setCell ⟨g, 2, none⟩ (.int .i64 st)).setCell ⟨g + 1, 5, none⟩ (.int .i64 t)) (g + 1 + 1 + 1) 90 [.slice none 0 0, .slice none 0 0, .bool false, .bool false, .int .i64 0, .int .i64 0]) := hoq2_2OR
  have HR2 := Lib.hid hrq2_2
  have HT2 : Hid (Touch (OfAct K) w ((w1.setCell ⟨g, 2, none⟩ (.int .i64 st)).setCell ⟨g + 1, 5, none⟩ (.int .i64 t))) := hTq2_2
  clear HBC1 HBR1 HBOC1 HBOR1 HR1 HT1 htq2_1 hbq2_1 hrq2_1 hTq2_1 hoq2_1R hoq2_1OC hoq2_1OR htq2_2 hbq2_2 hrq2_2 hTq2_2 hoq2_2C hoq2_2OC hoq2_2OR
  generalize ((w1.setCell ⟨g, 2, none⟩ (.int .i64 st)).setCell ⟨g + 1, 5, none⟩ (.int .i64 t)) = w2 at *
  have xC0 : w2.cell? ⟨g, 0, none⟩ = some (.int .i64 s.most) := HBC2.out.cell 0
  have xC1 : w2.cell? ⟨g, 1, none⟩ = some (.int .i64 s.credit) := HBC2.out.cell 1
  have xC2 : w2.cell? ⟨g, 2, none⟩ = some (.int .i64 st) := HBC2.out.cell 2
  have xC3 : w2.cell? ⟨g, 3, none⟩ = some (.int .i64 s.sq) := HBC2.out.cell 3
  have xC4 : w2.cell? ⟨g, 4, none⟩ = some (.int .i64 s.peer) := HBC2.out.cell 4
  have xC5 : w2.cell? ⟨g, 5, none⟩ = some (.int .i64 s.cc) := HBC2.out.cell 5
  have xC6 : w2.cell? ⟨g, 6, none⟩ = some (.int .i64 s.ms) := HBC2.out.cell 6
  have xC7 : w2.cell? ⟨g, 7, none⟩ = some (.string s.data) := HBC2.out.cell 7
  have xR0 : w2.cell? ⟨g + 1, 0, none⟩ = some (.slice P.A1 r.sigs.length P.c1) := HBR2.out.cell 0
  have xR1 : w2.cell? ⟨g + 1, 1, none⟩ = some (.slice P.A2 r.units.length P.c2) := HBR2.out.cell 1
  have xR2 : w2.cell? ⟨g + 1, 2, none⟩ = some (.bool r.begins) := HBR2.out.cell 2
  have xR3 : w2.cell? ⟨g + 1, 3, none⟩ = some (.bool r.ends) := HBR2.out.cell 3
  have xR4 : w2.cell? ⟨g + 1, 4, none⟩ = some (.int .i64 r.ms) := HBR2.out.cell 4
  have xR5 : w2.cell? ⟨g + 1, 5, none⟩ = some (.int .i64 t) := HBR2.out.cell 5
  have xOC0 : w2.cell? ⟨g + 1 + 1, 0, none⟩ = some (.int .i64 0) := HBOC2.out.cell 0
  have fOC0 := HBOC2.out.frozen 0
  have xOC1 : w2.cell? ⟨g + 1 + 1, 1, none⟩ = some (.int .i64 0) := HBOC2.out.cell 1
  have fOC1 := HBOC2.out.frozen 1
  have xOC2 : w2.cell? ⟨g + 1 + 1, 2, none⟩ = some (.int .i64 0) := HBOC2.out.cell 2
  have fOC2 := HBOC2.out.frozen 2
  have xOC3 : w2.cell? ⟨g + 1 + 1, 3, none⟩ = some (.int .i64 0) := HBOC2.out.cell 3
  have fOC3 := HBOC2.out.frozen 3
  have xOC4 : w2.cell? ⟨g + 1 + 1, 4, none⟩ = some (.int .i64 0) := HBOC2.out.cell 4
  have fOC4 := HBOC2.out.frozen 4
  have xOC5 : w2.cell? ⟨g + 1 + 1, 5, none⟩ = some (.int .i64 0) := HBOC2.out.cell 5
  have fOC5 := HBOC2.out.frozen 5
  have xOC6 : w2.cell? ⟨g + 1 + 1, 6, none⟩ = some (.int .i64 0) := HBOC2.out.cell 6
  have fOC6 := HBOC2.out.frozen 6
  have xOC7 : w2.cell? ⟨g + 1 + 1, 7, none⟩ = some (.string { data := #[] }) := HBOC2.out.cell 7
  have fOC7 := HBOC2.out.frozen 7
  have xOR0 : w2.cell? ⟨g + 1 + 1 + 1, 0, none⟩ = some (.slice none 0 0) := HBOR2.out.cell 0
  have fOR0 := HBOR2.out.frozen 0
  have xOR1 : w2.cell? ⟨g + 1 + 1 + 1, 1, none⟩ = some (.slice none 0 0) := HBOR2.out.cell 1
  have fOR1 := HBOR2.out.frozen 1
  have xOR2 : w2.cell? ⟨g + 1 + 1 + 1, 2, none⟩ = some (.bool false) := HBOR2.out.cell 2
  have fOR2 := HBOR2.out.frozen 2
  have xOR3 : w2.cell? ⟨g + 1 + 1 + 1, 3, none⟩ = some (.bool false) := HBOR2.out.cell 3
  have fOR3 := HBOR2.out.frozen 3
  have xOR4 : w2.cell? ⟨g + 1 + 1 + 1, 4, none⟩ = some (.int .i64 0) := HBOR2.out.cell 4
  have fOR4 := HBOR2.out.frozen 4
  have xOR5 : w2.cell? ⟨g + 1 + 1 + 1, 5, none⟩ = some (.int .i64 0) := HBOR2.out.cell 5
  have fOR5 := HBOR2.out.frozen 5
  go_wp2
  go_region
  have htq3_1 : Touch (· = g + 1 + 1) w2 ((((((((w2.setCell ⟨g + 1 + 1, 0, none⟩ (.int .i64 s.most)).setCell ⟨g + 1 + 1, 1, none⟩ (.int .i64 s.credit)).setCell ⟨g + 1 + 1, 2, none⟩ (.int .i64 st)).setCell ⟨g + 1 + 1, 3, none⟩ (.int .i64 s.sq)).setCell ⟨g + 1 + 1, 4, none⟩ (.int .i64 s.peer)).setCell ⟨g + 1 + 1, 5, none⟩ (.int .i64 s.cc)).setCell ⟨g + 1 + 1, 6, none⟩ (.int .i64 s.ms)).setCell ⟨g + 1 + 1, 7, none⟩ (.string s.data)) := (((((((((Touch.refl _ w2).st (S := (· = g + 1 + 1)) (u := .int .i64 s.most) (by exact rfl)).st (S := (· = g + 1 + 1)) (u := .int .i64 s.credit) (by exact rfl)).st (S := (· = g + 1 + 1)) (u := .int .i64 st) (by exact rfl)).st (S := (· = g + 1 + 1)) (u := .int .i64 s.sq) (by exact rfl)).st (S := (· = g + 1 + 1)) (u := .int .i64 s.peer) (by exact rfl)).st (S := (· = g + 1 + 1)) (u := .int .i64 s.cc) (by exact rfl)).st (S := (· = g + 1 + 1)) (u := .int .i64 s.ms) (by exact rfl)).st (S := (· = g + 1 + 1)) (u := .string s.data) (by exact rfl))
  have hbq3_1 : Blk ((((((((w2.setCell ⟨g + 1 + 1, 0, none⟩ (.int .i64 s.most)).setCell ⟨g + 1 + 1, 1, none⟩ (.int .i64 s.credit)).setCell ⟨g + 1 + 1, 2, none⟩ (.int .i64 st)).setCell ⟨g + 1 + 1, 3, none⟩ (.int .i64 s.sq)).setCell ⟨g + 1 + 1, 4, none⟩ (.int .i64 s.peer)).setCell ⟨g + 1 + 1, 5, none⟩ (.int .i64 s.cc)).setCell ⟨g + 1 + 1, 6, none⟩ (.int .i64 s.ms)).setCell ⟨g + 1 + 1, 7, none⟩ (.string s.data)) (g + 1 + 1) 59 [.int .i64 s.most, .int .i64 s.credit, .int .i64 st, .int .i64 s.sq, .int .i64 s.peer, .int .i64 s.cc, .int .i64 s.ms, .string s.data] := ((((((((HBOC2.out.set 0 (.int .i64 s.most)).set 1 (.int .i64 s.credit)).set 2 (.int .i64 st)).set 3 (.int .i64 s.sq)).set 4 (.int .i64 s.peer)).set 5 (.int .i64 s.cc)).set 6 (.int .i64 s.ms)).set 7 (.string s.data))
  have hoq3_1C := htq3_1.blk HBC2.out (by intro e; have e : g = g + 1 + 1 := e; omega)
  have hoq3_1R := htq3_1.blk HBR2.out (by intro e; have e : g + 1 = g + 1 + 1 := e; omega)
  have hoq3_1OR := htq3_1.blk HBOR2.out (by intro e; have e : g + 1 + 1 + 1 = g + 1 + 1 := e; omega)
  have hrq3_1 := HR2.out.touch htq3_1 (fun k e => by have e : k = g + 1 + 1 := e; rw [e]; exact HGOC.out)
  have hTq3_1 : Touch (OfAct K) w ((((((((w2.setCell ⟨g + 1 + 1, 0, none⟩ (.int .i64 s.most)).setCell ⟨g + 1 + 1, 1, none⟩ (.int .i64 s.credit)).setCell ⟨g + 1 + 1, 2, none⟩ (.int .i64 st)).setCell ⟨g + 1 + 1, 3, none⟩ (.int .i64 s.sq)).setCell ⟨g + 1 + 1, 4, none⟩ (.int .i64 s.peer)).setCell ⟨g + 1 + 1, 5, none⟩ (.int .i64 s.cc)).setCell ⟨g + 1 + 1, 6, none⟩ (.int .i64 s.ms)).setCell ⟨g + 1 + 1, 7, none⟩ (.string s.data)) := HT2.out.trans htq3_1 (fun k _ e => by have e : k = g + 1 + 1 := e; intro hk; have := HLIM.out k hk; omega)
  have htq3_2 : Touch (· = g + 1 + 1 + 1) ((((((((w2.setCell ⟨g + 1 + 1, 0, none⟩ (.int .i64 s.most)).setCell ⟨g + 1 + 1, 1, none⟩ (.int .i64 s.credit)).setCell ⟨g + 1 + 1, 2, none⟩ (.int .i64 st)).setCell ⟨g + 1 + 1, 3, none⟩ (.int .i64 s.sq)).setCell ⟨g + 1 + 1, 4, none⟩ (.int .i64 s.peer)).setCell ⟨g + 1 + 1, 5, none⟩ (.int .i64 s.cc)).setCell ⟨g + 1 + 1, 6, none⟩ (.int .i64 s.ms)).setCell ⟨g + 1 + 1, 7, none⟩ (.string s.data)) ((((((((((((((w2.setCell ⟨g + 1 + 1, 0, none⟩ (.int .i64 s.most)).setCell ⟨g + 1 + 1, 1, none⟩ (.int .i64 s.credit)).setCell ⟨g + 1 + 1, 2, none⟩ (.int .i64 st)).setCell ⟨g + 1 + 1, 3, none⟩ (.int .i64 s.sq)).setCell ⟨g + 1 + 1, 4, none⟩ (.int .i64 s.peer)).setCell ⟨g + 1 + 1, 5, none⟩ (.int .i64 s.cc)).setCell ⟨g + 1 + 1, 6, none⟩ (.int .i64 s.ms)).setCell ⟨g + 1 + 1, 7, none⟩ (.string s.data)).setCell ⟨g + 1 + 1 + 1, 0, none⟩ (.slice P.A1 r.sigs.length P.c1)).setCell ⟨g + 1 + 1 + 1, 1, none⟩ (.slice P.A2 r.units.length P.c2)).setCell ⟨g + 1 + 1 + 1, 2, none⟩ (.bool r.begins)).setCell ⟨g + 1 + 1 + 1, 3, none⟩ (.bool r.ends)).setCell ⟨g + 1 + 1 + 1, 4, none⟩ (.int .i64 r.ms)).setCell ⟨g + 1 + 1 + 1, 5, none⟩ (.int .i64 t)) := (((((((Touch.refl _ ((((((((w2.setCell ⟨g + 1 + 1, 0, none⟩ (.int .i64 s.most)).setCell ⟨g + 1 + 1, 1, none⟩ (.int .i64 s.credit)).setCell ⟨g + 1 + 1, 2, none⟩ (.int .i64 st)).setCell ⟨g + 1 + 1, 3, none⟩ (.int .i64 s.sq)).setCell ⟨g + 1 + 1, 4, none⟩ (.int .i64 s.peer)).setCell ⟨g + 1 + 1, 5, none⟩ (.int .i64 s.cc)).setCell ⟨g + 1 + 1, 6, none⟩ (.int .i64 s.ms)).setCell ⟨g + 1 + 1, 7, none⟩ (.string s.data))).st (S := (· = g + 1 + 1 + 1)) (u := .slice P.A1 r.sigs.length P.c1) (by exact rfl)).st (S := (· = g + 1 + 1 + 1)) (u := .slice P.A2 r.units.length P.c2) (by exact rfl)).st (S := (· = g + 1 + 1 + 1)) (u := .bool r.begins) (by exact rfl)).st (S := (· = g + 1 + 1 + 1)) (u := .bool r.ends) (by exact rfl)).st (S := (· = g + 1 + 1 + 1)) (u := .int .i64 r.ms) (by exact rfl)).st (S := (· = g + 1 + 1 + 1)) (u := .int .i64 t) (by exact rfl))
  have hbq3_2 : Blk ((((((((((((((w2.setCell ⟨g + 1 + 1, 0, none⟩ (.int .i64 s.most)).setCell ⟨g + 1 + 1, 1, none⟩ (.int .i64 s.credit)).setCell ⟨g + 1 + 1, 2, none⟩ (.int .i64 st)).setCell ⟨g + 1 + 1, 3, none⟩ (.int .i64 s.sq)).setCell ⟨g + 1 + 1, 4, none⟩ (.int .i64 s.peer)).setCell ⟨g + 1 + 1, 5, none⟩ (.int .i64 s.cc)).setCell ⟨g + 1 + 1, 6, none⟩ (.int .i64 s.ms)).setCell ⟨g + 1 + 1, 7, none⟩ (.string s.data)).setCell ⟨g + 1 + 1 + 1, 0, none⟩ (.slice P.A1 r.sigs.length P.c1)).setCell ⟨g + 1 + 1 + 1, 1, none⟩ (.slice P.A2 r.units.length P.c2)).setCell ⟨g + 1 + 1 + 1, 2, none⟩ (.bool r.begins)).setCell ⟨g + 1 + 1 + 1, 3, none⟩ (.bool r.ends)).setCell ⟨g + 1 + 1 + 1, 4, none⟩ (.int .i64 r.ms)).setCell ⟨g + 1 + 1 + 1, 5, none⟩ (.int .i64 t)) (g + 1 + 1 + 1) 90 [.slice P.A1 r.sigs.length P.c1, .slice P.A2 r.units.length P.c2, .bool r.begins, .bool r.ends, .int .i64 r.ms, .int .i64 t] := ((((((hoq3_1OR.set 0 (.slice P.A1 r.sigs.length P.c1)).set 1 (.slice P.A2 r.units.length P.c2)).set 2 (.bool r.begins)).set 3 (.bool r.ends)).set 4 (.int .i64 r.ms)).set 5 (.int .i64 t))
  have hoq3_2C := htq3_2.blk hoq3_1C (by intro e; have e : g = g + 1 + 1 + 1 := e; omega)
  have hoq3_2R := htq3_2.blk hoq3_1R (by intro e; have e : g + 1 = g + 1 + 1 + 1 := e; omega)
  have hoq3_2OC := htq3_2.blk hbq3_1 (by intro e; have e : g + 1 + 1 = g + 1 + 1 + 1 := e; omega)
  have hrq3_2 := hrq3_1.touch htq3_2 (fun k e => by have e : k = g + 1 + 1 + 1 := e; rw [e]; exact HGOR.out)
  have hTq3_2 : Touch (OfAct K) w ((((((((((((((w2.setCell ⟨g + 1 + 1, 0, none⟩ (.int .i64 s.most)).setCell ⟨g + 1 + 1, 1, none⟩ (.int .i64 s.credit)).setCell ⟨g + 1 + 1, 2, none⟩ (.int .i64 st)).setCell ⟨g + 1 + 1, 3, none⟩ (.int .i64 s.sq)).setCell ⟨g + 1 + 1, 4, none⟩ (.int .i64 s.peer)).setCell ⟨g + 1 + 1, 5, none⟩ (.int .i64 s.cc)).setCell ⟨g + 1 + 1, 6, none⟩ (.int .i64 s.ms)).setCell ⟨g + 1 + 1, 7, none⟩ (.string s.data)).setCell ⟨g + 1 + 1 + 1, 0, none⟩ (.slice P.A1 r.sigs.length P.c1)).setCell ⟨g + 1 + 1 + 1, 1, none⟩ (.slice P.A2 r.units.length P.c2)).setCell ⟨g + 1 + 1 + 1, 2, none⟩ (.bool r.begins)).setCell ⟨g + 1 + 1 + 1, 3, none⟩ (.bool r.ends)).setCell ⟨g + 1 + 1 + 1, 4, none⟩ (.int .i64 r.ms)).setCell ⟨g + 1 + 1 + 1, 5, none⟩ (.int .i64 t)) := hTq3_1.trans htq3_2 (fun k _ e => by have e : k = g + 1 + 1 + 1 := e; intro hk; have := HLIM.out k hk; omega)
  clear xC0 xC1 xC2 xC3 xC4 xC5 xC6 xC7 xR0 xR1 xR2 xR3 xR4 xR5 xOC0 fOC0 xOC1 fOC1 xOC2 fOC2 xOC3 fOC3 xOC4 fOC4 xOC5 fOC5 xOC6 fOC6 xOC7 fOC7 xOR0 fOR0 xOR1 fOR1 xOR2 fOR2 xOR3 fOR3 xOR4 fOR4 xOR5 fOR5
  have HBC3 : Hid (Blk ((((((((((((((w2.setCell ⟨g + 1 + 1, 0, none⟩ (.int .i64 s.most)).setCell ⟨g + 1 + 1, 1, none⟩ (.int .i64 s.credit)).setCell ⟨g + 1 + 1, 2, none⟩ (.int .i64 st)).setCell ⟨g + 1 + 1, 3, none⟩ (.int .i64 s.sq)).setCell ⟨g + 1 + 1, 4, none⟩ (.int .i64 s.peer)).setCell ⟨g + 1 + 1, 5, none⟩ (.int .i64 s.cc)).setCell ⟨g + 1 + 1, 6, none⟩ (.int .i64 s.ms)).setCell ⟨g + 1 + 1, 7, none⟩ (.string s.data)).setCell ⟨g + 1 + 1 + 1, 0, none⟩ (.slice P.A1 r.sigs.length P.c1)).setCell ⟨g + 1 + 1 + 1, 1, none⟩ (.slice P.A2 r.units.length P.c2)).setCell ⟨g + 1 + 1 + 1, 2, none⟩ (.bool r.begins)).setCell ⟨g + 1 + 1 + 1, 3, none⟩ (.bool r.ends)).setCell ⟨g + 1 + 1 + 1, 4, none⟩ (.int .i64 r.ms)).setCell ⟨g + 1 + 1 + 1, 5, none⟩ (.int .i64 t)).drew (g) 59 [.int .i64 s.most, .int .i64 s.credit, .int .i64 st, .int .i64 s.sq, .int .i64 s.peer, .int .i64 s.cc, .int .i64 s.ms, .string s.data]) := Blk.drew hoq3_2C
  have HBR3 : Hid (Blk ((((((((((((((w2.setCell ⟨g + 1 + 1, 0, none⟩ (.int .i64 s.most)).setCell ⟨g + 1 + 1, 1, none⟩ (.int .i64 s.credit)).setCell ⟨g + 1 + 1, 2, none⟩ (.int .i64 st)).setCell ⟨g + 1 + 1, 3, none⟩ (.int .i64 s.sq)).setCell ⟨g + 1 + 1, 4, none⟩ (.int .i64 s.peer)).setCell ⟨g + 1 + 1, 5, none⟩ (.int .i64 s.cc)).setCell ⟨g + 1 + 1, 6, none⟩ (.int .i64 s.ms)).setCell ⟨g + 1 + 1, 7, none⟩ (.string s.data)).setCell ⟨g + 1 + 1 + 1, 0, none⟩ (.slice P.A1 r.sigs.length P.c1)).setCell ⟨g + 1 + 1 + 1, 1, none⟩ (.slice P.A2 r.units.length P.c2)).setCell ⟨g + 1 + 1 + 1, 2, none⟩ (.bool r.begins)).setCell ⟨g + 1 + 1 + 1, 3, none⟩ (.bool r.ends)).setCell ⟨g + 1 + 1 + 1, 4, none⟩ (.int .i64 r.ms)).setCell ⟨g + 1 + 1 + 1, 5, none⟩ (.int .i64 t)).drew (g + 1) 90 [.slice P.A1 r.sigs.length P.c1, .slice P.A2 r.units.length P.c2, .bool r.begins, .bool r.ends, .int .i64 r.ms, .int .i64 t]) := Blk.drew hoq3_2R
  have HBOC3 : Hid (Blk ((((((((((((((w2.setCell ⟨g + 1 + 1, 0, none⟩ (.int .i64 s.most)).setCell ⟨g + 1 + 1, 1, none⟩ (.int .i64 s.credit)).setCell ⟨g + 1 + 1, 2, none⟩ (.int .i64 st)).setCell ⟨g + 1 + 1, 3, none⟩ (.int .i64 s.sq)).setCell ⟨g + 1 + 1, 4, none⟩ (.int .i64 s.peer)).setCell ⟨g + 1 + 1, 5, none⟩ (.int .i64 s.cc)).setCell ⟨g + 1 + 1, 6, none⟩ (.int .i64 s.ms)).setCell ⟨g + 1 + 1, 7, none⟩ (.string s.data)).setCell ⟨g + 1 + 1 + 1, 0, none⟩ (.slice P.A1 r.sigs.length P.c1)).setCell ⟨g + 1 + 1 + 1, 1, none⟩ (.slice P.A2 r.units.length P.c2)).setCell ⟨g + 1 + 1 + 1, 2, none⟩ (.bool r.begins)).setCell ⟨g + 1 + 1 + 1, 3, none⟩ (.bool r.ends)).setCell ⟨g + 1 + 1 + 1, 4, none⟩ (.int .i64 r.ms)).setCell ⟨g + 1 + 1 + 1, 5, none⟩ (.int .i64 t)).drew (g + 1 + 1) 59 [.int .i64 s.most, .int .i64 s.credit, .int .i64 st, .int .i64 s.sq, .int .i64 s.peer, .int .i64 s.cc, .int .i64 s.ms, .string s.data]) := Blk.drew hoq3_2OC
  have HBOR3 : Hid (Blk ((((((((((((((w2.setCell ⟨g + 1 + 1, 0, none⟩ (.int .i64 s.most)).setCell ⟨g + 1 + 1, 1, none⟩ (.int .i64 s.credit)).setCell ⟨g + 1 + 1, 2, none⟩ (.int .i64 st)).setCell ⟨g + 1 + 1, 3, none⟩ (.int .i64 s.sq)).setCell ⟨g + 1 + 1, 4, none⟩ (.int .i64 s.peer)).setCell ⟨g + 1 + 1, 5, none⟩ (.int .i64 s.cc)).setCell ⟨g + 1 + 1, 6, none⟩ (.int .i64 s.ms)).setCell ⟨g + 1 + 1, 7, none⟩ (.string s.data)).setCell ⟨g + 1 + 1 + 1, 0, none⟩ (.slice P.A1 r.sigs.length P.c1)).setCell ⟨g + 1 + 1 + 1, 1, none⟩ (.slice P.A2 r.units.length P.c2)).setCell ⟨g + 1 + 1 + 1, 2, none⟩ (.bool r.begins)).setCell ⟨g + 1 + 1 + 1, 3, none⟩ (.bool r.ends)).setCell ⟨g + 1 + 1 + 1, 4, none⟩ (.int .i64 r.ms)).setCell ⟨g + 1 + 1 + 1, 5, none⟩ (.int .i64 t)).drew (g + 1 + 1 + 1) 90 [.slice P.A1 r.sigs.length P.c1, .slice P.A2 r.units.length P.c2, .bool r.begins, .bool r.ends, .int .i64 r.ms, .int .i64 t]) := Blk.drew hbq3_2
  have HR3 := Lib.hid (RIn.old hrq3_2 (Touch.refl _ ((((((((((((((w2.setCell ⟨g + 1 + 1, 0, none⟩ (.int .i64 s.most)).setCell ⟨g + 1 + 1, 1, none⟩ (.int .i64 s.credit)).setCell ⟨g + 1 + 1, 2, none⟩ (.int .i64 st)).setCell ⟨g + 1 + 1, 3, none⟩ (.int .i64 s.sq)).setCell ⟨g + 1 + 1, 4, none⟩ (.int .i64 s.peer)).setCell ⟨g + 1 + 1, 5, none⟩ (.int .i64 s.cc)).setCell ⟨g + 1 + 1, 6, none⟩ (.int .i64 s.ms)).setCell ⟨g + 1 + 1, 7, none⟩ (.string s.data)).setCell ⟨g + 1 + 1 + 1, 0, none⟩ (.slice P.A1 r.sigs.length P.c1)).setCell ⟨g + 1 + 1 + 1, 1, none⟩ (.slice P.A2 r.units.length P.c2)).setCell ⟨g + 1 + 1 + 1, 2, none⟩ (.bool r.begins)).setCell ⟨g + 1 + 1 + 1, 3, none⟩ (.bool r.ends)).setCell ⟨g + 1 + 1 + 1, 4, none⟩ (.int .i64 r.ms)).setCell ⟨g + 1 + 1 + 1, 5, none⟩ (.int .i64 t))).drew)
  have HT3 : Hid (Touch (OfAct K) w ((((((((((((((w2.setCell ⟨g + 1 + 1, 0, none⟩ (.int .i64 s.most)).setCell ⟨g + 1 + 1, 1, none⟩ (.int .i64 s.credit)).setCell ⟨g + 1 + 1, 2, none⟩ (.int .i64 st)).setCell ⟨g + 1 + 1, 3, none⟩ (.int .i64 s.sq)).setCell ⟨g + 1 + 1, 4, none⟩ (.int .i64 s.peer)).setCell ⟨g + 1 + 1, 5, none⟩ (.int .i64 s.cc)).setCell ⟨g + 1 + 1, 6, none⟩ (.int .i64 s.ms)).setCell ⟨g + 1 + 1, 7, none⟩ (.string s.data)).setCell ⟨g + 1 + 1 + 1, 0, none⟩ (.slice P.A1 r.sigs.length P.c1)).setCell ⟨g + 1 + 1 + 1, 1, none⟩ (.slice P.A2 r.units.length P.c2)).setCell ⟨g + 1 + 1 + 1, 2, none⟩ (.bool r.begins)).setCell ⟨g + 1 + 1 + 1, 3, none⟩ (.bool r.ends)).setCell ⟨g + 1 + 1 + 1, 4, none⟩ (.int .i64 r.ms)).setCell ⟨g + 1 + 1 + 1, 5, none⟩ (.int .i64 t)).drew) := Touch.drew hTq3_2
  clear HBC2 HBR2 HBOC2 HBOR2 HR2 HT2 htq3_1 hbq3_1 hrq3_1 hTq3_1 hoq3_1C hoq3_1R hoq3_1OR htq3_2 hbq3_2 hrq3_2 hTq3_2 hoq3_2C hoq3_2R hoq3_2OC
  generalize ((((((((((((((w2.setCell ⟨g + 1 + 1, 0, none⟩ (.int .i64 s.most)).setCell ⟨g + 1 + 1, 1, none⟩ (.int .i64 s.credit)).setCell ⟨g + 1 + 1, 2, none⟩ (.int .i64 st)).setCell ⟨g + 1 + 1, 3, none⟩ (.int .i64 s.sq)).setCell ⟨g + 1 + 1, 4, none⟩ (.int .i64 s.peer)).setCell ⟨g + 1 + 1, 5, none⟩ (.int .i64 s.cc)).setCell ⟨g + 1 + 1, 6, none⟩ (.int .i64 s.ms)).setCell ⟨g + 1 + 1, 7, none⟩ (.string s.data)).setCell ⟨g + 1 + 1 + 1, 0, none⟩ (.slice P.A1 r.sigs.length P.c1)).setCell ⟨g + 1 + 1 + 1, 1, none⟩ (.slice P.A2 r.units.length P.c2)).setCell ⟨g + 1 + 1 + 1, 2, none⟩ (.bool r.begins)).setCell ⟨g + 1 + 1 + 1, 3, none⟩ (.bool r.ends)).setCell ⟨g + 1 + 1 + 1, 4, none⟩ (.int .i64 r.ms)).setCell ⟨g + 1 + 1 + 1, 5, none⟩ (.int .i64 t)).drew = w3 at *
  have HX : Hid (∀ e, e = .returned (.tuple #[.agg #[.int .i64 s.most, .int .i64 s.credit, .int .i64 st, .int .i64 s.sq, .int .i64 s.peer, .int .i64 s.cc, .int .i64 s.ms, .string s.data], .agg #[.slice P.A1 r.sigs.length P.c1, .slice P.A2 r.units.length P.c2, .bool r.begins, .bool r.ends, .int .i64 r.ms, .int .i64 t]]) → RPost K (n + 0) (Cn.toT (s, r) st t) w e w3) := fun e he => ⟨P, he.trans (by (unfold Cn.toT Cn.to; simp only [HTEN.out, Bool.or_true, Bool.or_false, if_neg HZ.out]; rfl)), by exact ((HR3.out.less HL.out).wide (by omega)).eq rfl rfl, HT3.out⟩
  have zOC0 : w3.cell? ⟨g + 1 + 1, 0, none⟩ = some (.int .i64 s.most) := HBOC3.out.cell 0
  have zOC1 : w3.cell? ⟨g + 1 + 1, 1, none⟩ = some (.int .i64 s.credit) := HBOC3.out.cell 1
  have zOC2 : w3.cell? ⟨g + 1 + 1, 2, none⟩ = some (.int .i64 st) := HBOC3.out.cell 2
  have zOC3 : w3.cell? ⟨g + 1 + 1, 3, none⟩ = some (.int .i64 s.sq) := HBOC3.out.cell 3
  have zOC4 : w3.cell? ⟨g + 1 + 1, 4, none⟩ = some (.int .i64 s.peer) := HBOC3.out.cell 4
  have zOC5 : w3.cell? ⟨g + 1 + 1, 5, none⟩ = some (.int .i64 s.cc) := HBOC3.out.cell 5
  have zOC6 : w3.cell? ⟨g + 1 + 1, 6, none⟩ = some (.int .i64 s.ms) := HBOC3.out.cell 6
  have zOC7 : w3.cell? ⟨g + 1 + 1, 7, none⟩ = some (.string s.data) := HBOC3.out.cell 7
  have zOR0 : w3.cell? ⟨g + 1 + 1 + 1, 0, none⟩ = some (.slice P.A1 r.sigs.length P.c1) := HBOR3.out.cell 0
  have zOR1 : w3.cell? ⟨g + 1 + 1 + 1, 1, none⟩ = some (.slice P.A2 r.units.length P.c2) := HBOR3.out.cell 1
  have zOR2 : w3.cell? ⟨g + 1 + 1 + 1, 2, none⟩ = some (.bool r.begins) := HBOR3.out.cell 2
  have zOR3 : w3.cell? ⟨g + 1 + 1 + 1, 3, none⟩ = some (.bool r.ends) := HBOR3.out.cell 3
  have zOR4 : w3.cell? ⟨g + 1 + 1 + 1, 4, none⟩ = some (.int .i64 r.ms) := HBOR3.out.cell 4
  have zOR5 : w3.cell? ⟨g + 1 + 1 + 1, 5, none⟩ = some (.int .i64 t) := HBOR3.out.cell 5
  go_wp2
  exact bodyPost_ret (v := _) (by simp [results, Try.results69, go_sem, zOC0, zOC1, zOC2, zOC3, zOC4, zOC5, zOC6, zOC7, zOR0, zOR1, zOR2, zOR3, zOR4, zOR5]) rfl (HX.out _ rfl)

set_option maxHeartbeats 4000000 in
set_option maxRecDepth 100000 in
theorem rready_any {K : Nat → Prop} {n : Nat} {w : World} {P : RP} {s : Cn.S} {r : Cn.R} (h : RIn K n w P r) :
    Calls Try.prog 68 #[rcV s, rrV P r] w (RPost K n (Cn.ready (s, r)) w) := by
  unfold rcV rrV
  obtain ⟨w1, q0⟩ : ∃ x : World, x = ((((w.alloc (.cells #[.int .i64 s.most, .int .i64 s.credit, .int .i64 s.state, .int .i64 s.sq, .int .i64 s.peer, .int .i64 s.cc, .int .i64 s.ms, .string s.data] 59)).alloc (.cells #[.slice P.A1 r.sigs.length P.c1, .slice P.A2 r.units.length P.c2, .bool r.begins, .bool r.ends, .int .i64 r.ms, .int .i64 r.timer] 90)).alloc (.cells #[.int .i64 0, .int .i64 0, .int .i64 0, .int .i64 0, .int .i64 0, .int .i64 0, .int .i64 0, .string { data := #[] }] 59)).alloc (.cells #[.slice none 0 0, .slice none 0 0, .bool false, .bool false, .int .i64 0, .int .i64 0] 90)) := ⟨_, rfl⟩
  have q_w1 := Lib.hid q0
  clear q0
  have HF : Hid (Fresh w w1) := by rw [q_w1.out]; exact ((((Touch.refl _ w).alloc _).alloc _).alloc _).alloc _
  have HBC1 : Hid (Blk w1 (w.heap.size) 59 [.int .i64 s.most, .int .i64 s.credit, .int .i64 s.state, .int .i64 s.sq, .int .i64 s.peer, .int .i64 s.cc, .int .i64 s.ms, .string s.data]) := by
    rw [q_w1.out]
    have := (((Blk.new w 59 [.int .i64 s.most, .int .i64 s.credit, .int .i64 s.state, .int .i64 s.sq, .int .i64 s.peer, .int .i64 s.cc, .int .i64 s.ms, .string s.data]).alloc (.cells #[.slice P.A1 r.sigs.length P.c1, .slice P.A2 r.units.length P.c2, .bool r.begins, .bool r.ends, .int .i64 r.ms, .int .i64 r.timer] 90)).alloc (.cells #[.int .i64 0, .int .i64 0, .int .i64 0, .int .i64 0, .int .i64 0, .int .i64 0, .int .i64 0, .string { data := #[] }] 59)).alloc (.cells #[.slice none 0 0, .slice none 0 0, .bool false, .bool false, .int .i64 0, .int .i64 0] 90)
    exact this
  have HGC : Hid (Kept K w w1 (w.heap.size)) := by rw [q_w1.out]; exact .inr ⟨by omega, by simp; try omega⟩
  have HBR1 : Hid (Blk w1 (w.heap.size + 1) 90 [.slice P.A1 r.sigs.length P.c1, .slice P.A2 r.units.length P.c2, .bool r.begins, .bool r.ends, .int .i64 r.ms, .int .i64 r.timer]) := by
    rw [q_w1.out]
    have := ((Blk.new (w.alloc (.cells #[.int .i64 s.most, .int .i64 s.credit, .int .i64 s.state, .int .i64 s.sq, .int .i64 s.peer, .int .i64 s.cc, .int .i64 s.ms, .string s.data] 59)) 90 [.slice P.A1 r.sigs.length P.c1, .slice P.A2 r.units.length P.c2, .bool r.begins, .bool r.ends, .int .i64 r.ms, .int .i64 r.timer]).alloc (.cells #[.int .i64 0, .int .i64 0, .int .i64 0, .int .i64 0, .int .i64 0, .int .i64 0, .int .i64 0, .string { data := #[] }] 59)).alloc (.cells #[.slice none 0 0, .slice none 0 0, .bool false, .bool false, .int .i64 0, .int .i64 0] 90)
    rwa [show (w.alloc (.cells #[.int .i64 s.most, .int .i64 s.credit, .int .i64 s.state, .int .i64 s.sq, .int .i64 s.peer, .int .i64 s.cc, .int .i64 s.ms, .string s.data] 59)).heap.size = w.heap.size + 1 by simp] at this
  have HGR : Hid (Kept K w w1 (w.heap.size + 1)) := by rw [q_w1.out]; exact .inr ⟨by omega, by simp; try omega⟩
  have HBOC1 : Hid (Blk w1 (w.heap.size + 1 + 1) 59 [.int .i64 0, .int .i64 0, .int .i64 0, .int .i64 0, .int .i64 0, .int .i64 0, .int .i64 0, .string { data := #[] }]) := by
    rw [q_w1.out]
    have := (Blk.new ((w.alloc (.cells #[.int .i64 s.most, .int .i64 s.credit, .int .i64 s.state, .int .i64 s.sq, .int .i64 s.peer, .int .i64 s.cc, .int .i64 s.ms, .string s.data] 59)).alloc (.cells #[.slice P.A1 r.sigs.length P.c1, .slice P.A2 r.units.length P.c2, .bool r.begins, .bool r.ends, .int .i64 r.ms, .int .i64 r.timer] 90)) 59 [.int .i64 0, .int .i64 0, .int .i64 0, .int .i64 0, .int .i64 0, .int .i64 0, .int .i64 0, .string { data := #[] }]).alloc (.cells #[.slice none 0 0, .slice none 0 0, .bool false, .bool false, .int .i64 0, .int .i64 0] 90)
    rwa [show ((w.alloc (.cells #[.int .i64 s.most, .int .i64 s.credit, .int .i64 s.state, .int .i64 s.sq, .int .i64 s.peer, .int .i64 s.cc, .int .i64 s.ms, .string s.data] 59)).alloc (.cells #[.slice P.A1 r.sigs.length P.c1, .slice P.A2 r.units.length P.c2, .bool r.begins, .bool r.ends, .int .i64 r.ms, .int .i64 r.timer] 90)).heap.size = w.heap.size + 1 + 1 by simp] at this
  have HGOC : Hid (Kept K w w1 (w.heap.size + 1 + 1)) := by rw [q_w1.out]; exact .inr ⟨by omega, by simp; try omega⟩
  have HBOR1 : Hid (Blk w1 (w.heap.size + 1 + 1 + 1) 90 [.slice none 0 0, .slice none 0 0, .bool false, .bool false, .int .i64 0, .int .i64 0]) := by
    rw [q_w1.out]
    have := Blk.new (((w.alloc (.cells #[.int .i64 s.most, .int .i64 s.credit, .int .i64 s.state, .int .i64 s.sq, .int .i64 s.peer, .int .i64 s.cc, .int .i64 s.ms, .string s.data] 59)).alloc (.cells #[.slice P.A1 r.sigs.length P.c1, .slice P.A2 r.units.length P.c2, .bool r.begins, .bool r.ends, .int .i64 r.ms, .int .i64 r.timer] 90)).alloc (.cells #[.int .i64 0, .int .i64 0, .int .i64 0, .int .i64 0, .int .i64 0, .int .i64 0, .int .i64 0, .string { data := #[] }] 59)) 90 [.slice none 0 0, .slice none 0 0, .bool false, .bool false, .int .i64 0, .int .i64 0]
    rwa [show (((w.alloc (.cells #[.int .i64 s.most, .int .i64 s.credit, .int .i64 s.state, .int .i64 s.sq, .int .i64 s.peer, .int .i64 s.cc, .int .i64 s.ms, .string s.data] 59)).alloc (.cells #[.slice P.A1 r.sigs.length P.c1, .slice P.A2 r.units.length P.c2, .bool r.begins, .bool r.ends, .int .i64 r.ms, .int .i64 r.timer] 90)).alloc (.cells #[.int .i64 0, .int .i64 0, .int .i64 0, .int .i64 0, .int .i64 0, .int .i64 0, .int .i64 0, .string { data := #[] }] 59)).heap.size = w.heap.size + 1 + 1 + 1 by simp] at this
  have HGOR : Hid (Kept K w w1 (w.heap.size + 1 + 1 + 1)) := by rw [q_w1.out]; exact .inr ⟨by omega, by simp; try omega⟩
  have HL : Hid (∀ k, K k → Kept K w w1 k) := by rw [q_w1.out]; exact fun k e => .inl e
  have HLIM : Hid (∀ k, K k → k < w.heap.size) := h.lim
  have HR1 := Lib.hid (h.keep HF.out)
  have HT1 : Hid (Touch (OfAct K) w w1) := HF.out.mono (fun _ _ e => e.elim)
  clear h HF
  go_enter Try.func68, Try.ntmps68
  go_upto_region 1 with (fail)
  rw [← q_w1.out]
  clear q_w1
  generalize Kept K w w1 = K1 at *
  generalize w.heap.size = g at *
  have xC0 : w1.cell? ⟨g, 0, none⟩ = some (.int .i64 s.most) := HBC1.out.cell 0
  have fC0 := HBC1.out.frozen 0
  have xC1 : w1.cell? ⟨g, 1, none⟩ = some (.int .i64 s.credit) := HBC1.out.cell 1
  have fC1 := HBC1.out.frozen 1
  have xC2 : w1.cell? ⟨g, 2, none⟩ = some (.int .i64 s.state) := HBC1.out.cell 2
  have fC2 := HBC1.out.frozen 2
  have xC3 : w1.cell? ⟨g, 3, none⟩ = some (.int .i64 s.sq) := HBC1.out.cell 3
  have fC3 := HBC1.out.frozen 3
  have xC4 : w1.cell? ⟨g, 4, none⟩ = some (.int .i64 s.peer) := HBC1.out.cell 4
  have fC4 := HBC1.out.frozen 4
  have xC5 : w1.cell? ⟨g, 5, none⟩ = some (.int .i64 s.cc) := HBC1.out.cell 5
  have fC5 := HBC1.out.frozen 5
  have xC6 : w1.cell? ⟨g, 6, none⟩ = some (.int .i64 s.ms) := HBC1.out.cell 6
  have fC6 := HBC1.out.frozen 6
  have xC7 : w1.cell? ⟨g, 7, none⟩ = some (.string s.data) := HBC1.out.cell 7
  have fC7 := HBC1.out.frozen 7
  have xR0 : w1.cell? ⟨g + 1, 0, none⟩ = some (.slice P.A1 r.sigs.length P.c1) := HBR1.out.cell 0
  have fR0 := HBR1.out.frozen 0
  have xR1 : w1.cell? ⟨g + 1, 1, none⟩ = some (.slice P.A2 r.units.length P.c2) := HBR1.out.cell 1
  have fR1 := HBR1.out.frozen 1
  have xR2 : w1.cell? ⟨g + 1, 2, none⟩ = some (.bool r.begins) := HBR1.out.cell 2
  have fR2 := HBR1.out.frozen 2
  have xR3 : w1.cell? ⟨g + 1, 3, none⟩ = some (.bool r.ends) := HBR1.out.cell 3
  have fR3 := HBR1.out.frozen 3
  have xR4 : w1.cell? ⟨g + 1, 4, none⟩ = some (.int .i64 r.ms) := HBR1.out.cell 4
  have fR4 := HBR1.out.frozen 4
  have xR5 : w1.cell? ⟨g + 1, 5, none⟩ = some (.int .i64 r.timer) := HBR1.out.cell 5
  have fR5 := HBR1.out.frozen 5
  go_wp2_with fail
  refine (rto_any (s := s) HR1.out 10 2).mono ?_
  rintro e w2 ⟨P2, rfl, hr2, ht2⟩
  simp only [rcV, rrV]
  have HBC2 := Lib.hid (ht2.keptB HBC1.out HGC.out)
  have HBR2 := Lib.hid (ht2.keptB HBR1.out HGR.out)
  have HBOC2 := Lib.hid (ht2.keptB HBOC1.out HGOC.out)
  have HBOR2 := Lib.hid (ht2.keptB HBOR1.out HGOR.out)
  have HR2 := Lib.hid hr2
  have HT2 : Hid (Touch (OfAct K) w w2) := HT1.out.trans (ht2.loose HL.out) (fun _ _ e => e)
  clear xC0 fC0 xC1 fC1 xC2 fC2 xC3 fC3 xC4 fC4 xC5 fC5 xC6 fC6 xC7 fC7 xR0 fR0 xR1 fR1 xR2 fR2 xR3 fR3 xR4 fR4 xR5 fR5
  clear hr2 ht2 HBC1 HBR1 HBOC1 HBOR1 HR1 HT1
  have HY : Hid (Cn.ready (s, r) = ((Cn.toT (s, r) 10 2).1, { (Cn.toT (s, r) 10 2).2 with begins := true, ms := (Cn.toT (s, r) 10 2).1.ms })) := rfl
  generalize Cn.toT (s, r) 10 2 = y at *
  have xC0 : w2.cell? ⟨g, 0, none⟩ = some (.int .i64 s.most) := HBC2.out.cell 0
  have fC0 := HBC2.out.frozen 0
  have xC1 : w2.cell? ⟨g, 1, none⟩ = some (.int .i64 s.credit) := HBC2.out.cell 1
  have fC1 := HBC2.out.frozen 1
  have xC2 : w2.cell? ⟨g, 2, none⟩ = some (.int .i64 s.state) := HBC2.out.cell 2
  have fC2 := HBC2.out.frozen 2
  have xC3 : w2.cell? ⟨g, 3, none⟩ = some (.int .i64 s.sq) := HBC2.out.cell 3
  have fC3 := HBC2.out.frozen 3
  have xC4 : w2.cell? ⟨g, 4, none⟩ = some (.int .i64 s.peer) := HBC2.out.cell 4
  have fC4 := HBC2.out.frozen 4
  have xC5 : w2.cell? ⟨g, 5, none⟩ = some (.int .i64 s.cc) := HBC2.out.cell 5
  have fC5 := HBC2.out.frozen 5
  have xC6 : w2.cell? ⟨g, 6, none⟩ = some (.int .i64 s.ms) := HBC2.out.cell 6
  have fC6 := HBC2.out.frozen 6
  have xC7 : w2.cell? ⟨g, 7, none⟩ = some (.string s.data) := HBC2.out.cell 7
  have fC7 := HBC2.out.frozen 7
  have xR0 : w2.cell? ⟨g + 1, 0, none⟩ = some (.slice P.A1 r.sigs.length P.c1) := HBR2.out.cell 0
  have fR0 := HBR2.out.frozen 0
  have xR1 : w2.cell? ⟨g + 1, 1, none⟩ = some (.slice P.A2 r.units.length P.c2) := HBR2.out.cell 1
  have fR1 := HBR2.out.frozen 1
  have xR2 : w2.cell? ⟨g + 1, 2, none⟩ = some (.bool r.begins) := HBR2.out.cell 2
  have fR2 := HBR2.out.frozen 2
  have xR3 : w2.cell? ⟨g + 1, 3, none⟩ = some (.bool r.ends) := HBR2.out.cell 3
  have fR3 := HBR2.out.frozen 3
  have xR4 : w2.cell? ⟨g + 1, 4, none⟩ = some (.int .i64 r.ms) := HBR2.out.cell 4
  have fR4 := HBR2.out.frozen 4
  have xR5 : w2.cell? ⟨g + 1, 5, none⟩ = some (.int .i64 r.timer) := HBR2.out.cell 5
  have fR5 := HBR2.out.frozen 5
  go_upto_region 2 with (fail)
  have htq3_1 : Touch (· = g) w2 ((((((((w2.setCell ⟨g, 0, none⟩ (.int .i64 y.1.most)).setCell ⟨g, 1, none⟩ (.int .i64 y.1.credit)).setCell ⟨g, 2, none⟩ (.int .i64 y.1.state)).setCell ⟨g, 3, none⟩ (.int .i64 y.1.sq)).setCell ⟨g, 4, none⟩ (.int .i64 y.1.peer)).setCell ⟨g, 5, none⟩ (.int .i64 y.1.cc)).setCell ⟨g, 6, none⟩ (.int .i64 y.1.ms)).setCell ⟨g, 7, none⟩ (.string y.1.data)) := (((((((((Touch.refl _ w2).st (S := (· = g)) (u := .int .i64 y.1.most) (by exact rfl)).st (S := (· = g)) (u := .int .i64 y.1.credit) (by exact rfl)).st (S := (· = g)) (u := .int .i64 y.1.state) (by exact rfl)).st (S := (· = g)) (u := .int .i64 y.1.sq) (by exact rfl)).st (S := (· = g)) (u := .int .i64 y.1.peer) (by exact rfl)).st (S := (· = g)) (u := .int .i64 y.1.cc) (by exact rfl)).st (S := (· = g)) (u := .int .i64 y.1.ms) (by exact rfl)).st (S := (· = g)) (u := .string y.1.data) (by exact rfl))
  have hbq3_1 : Blk ((((((((w2.setCell ⟨g, 0, none⟩ (.int .i64 y.1.most)).setCell ⟨g, 1, none⟩ (.int .i64 y.1.credit)).setCell ⟨g, 2, none⟩ (.int .i64 y.1.state)).setCell ⟨g, 3, none⟩ (.int .i64 y.1.sq)).setCell ⟨g, 4, none⟩ (.int .i64 y.1.peer)).setCell ⟨g, 5, none⟩ (.int .i64 y.1.cc)).setCell ⟨g, 6, none⟩ (.int .i64 y.1.ms)).setCell ⟨g, 7, none⟩ (.string y.1.data)) (g) 59 [.int .i64 y.1.most, .int .i64 y.1.credit, .int .i64 y.1.state, .int .i64 y.1.sq, .int .i64 y.1.peer, .int .i64 y.1.cc, .int .i64 y.1.ms, .string y.1.data] := ((((((((HBC2.out.set 0 (.int .i64 y.1.most)).set 1 (.int .i64 y.1.credit)).set 2 (.int .i64 y.1.state)).set 3 (.int .i64 y.1.sq)).set 4 (.int .i64 y.1.peer)).set 5 (.int .i64 y.1.cc)).set 6 (.int .i64 y.1.ms)).set 7 (.string y.1.data))
  have hoq3_1R := htq3_1.blk HBR2.out (by intro e; have e : g + 1 = g := e; omega)
  have hoq3_1OC := htq3_1.blk HBOC2.out (by intro e; have e : g + 1 + 1 = g := e; omega)
  have hoq3_1OR := htq3_1.blk HBOR2.out (by intro e; have e : g + 1 + 1 + 1 = g := e; omega)
  have hrq3_1 := HR2.out.touch htq3_1 (fun k e => by have e : k = g := e; rw [e]; exact HGC.out)
  have hTq3_1 : Touch (OfAct K) w ((((((((w2.setCell ⟨g, 0, none⟩ (.int .i64 y.1.most)).setCell ⟨g, 1, none⟩ (.int .i64 y.1.credit)).setCell ⟨g, 2, none⟩ (.int .i64 y.1.state)).setCell ⟨g, 3, none⟩ (.int .i64 y.1.sq)).setCell ⟨g, 4, none⟩ (.int .i64 y.1.peer)).setCell ⟨g, 5, none⟩ (.int .i64 y.1.cc)).setCell ⟨g, 6, none⟩ (.int .i64 y.1.ms)).setCell ⟨g, 7, none⟩ (.string y.1.data)) := HT2.out.trans htq3_1 (fun k _ e => by have e : k = g := e; intro hk; have := HLIM.out k hk; omega)
  obtain ⟨w3, q0⟩ : ∃ x : World, x = ((((((((((((((w2.setCell ⟨g, 0, none⟩ (.int .i64 y.1.most)).setCell ⟨g, 1, none⟩ (.int .i64 y.1.credit)).setCell ⟨g, 2, none⟩ (.int .i64 y.1.state)).setCell ⟨g, 3, none⟩ (.int .i64 y.1.sq)).setCell ⟨g, 4, none⟩ (.int .i64 y.1.peer)).setCell ⟨g, 5, none⟩ (.int .i64 y.1.cc)).setCell ⟨g, 6, none⟩ (.int .i64 y.1.ms)).setCell ⟨g, 7, none⟩ (.string y.1.data)).setCell ⟨g + 1, 0, none⟩ (.slice P2.A1 y.2.sigs.length P2.c1)).setCell ⟨g + 1, 1, none⟩ (.slice P2.A2 y.2.units.length P2.c2)).setCell ⟨g + 1, 2, none⟩ (.bool y.2.begins)).setCell ⟨g + 1, 3, none⟩ (.bool y.2.ends)).setCell ⟨g + 1, 4, none⟩ (.int .i64 y.2.ms)).setCell ⟨g + 1, 5, none⟩ (.int .i64 y.2.timer)) := ⟨_, rfl⟩
  have q_w3 := Lib.hid q0
  clear q0
  have htq3_2 : Touch (· = g + 1) ((((((((w2.setCell ⟨g, 0, none⟩ (.int .i64 y.1.most)).setCell ⟨g, 1, none⟩ (.int .i64 y.1.credit)).setCell ⟨g, 2, none⟩ (.int .i64 y.1.state)).setCell ⟨g, 3, none⟩ (.int .i64 y.1.sq)).setCell ⟨g, 4, none⟩ (.int .i64 y.1.peer)).setCell ⟨g, 5, none⟩ (.int .i64 y.1.cc)).setCell ⟨g, 6, none⟩ (.int .i64 y.1.ms)).setCell ⟨g, 7, none⟩ (.string y.1.data)) w3 := by rw [q_w3.out]; exact (((((((Touch.refl _ ((((((((w2.setCell ⟨g, 0, none⟩ (.int .i64 y.1.most)).setCell ⟨g, 1, none⟩ (.int .i64 y.1.credit)).setCell ⟨g, 2, none⟩ (.int .i64 y.1.state)).setCell ⟨g, 3, none⟩ (.int .i64 y.1.sq)).setCell ⟨g, 4, none⟩ (.int .i64 y.1.peer)).setCell ⟨g, 5, none⟩ (.int .i64 y.1.cc)).setCell ⟨g, 6, none⟩ (.int .i64 y.1.ms)).setCell ⟨g, 7, none⟩ (.string y.1.data))).st (S := (· = g + 1)) (u := .slice P2.A1 y.2.sigs.length P2.c1) (by exact rfl)).st (S := (· = g + 1)) (u := .slice P2.A2 y.2.units.length P2.c2) (by exact rfl)).st (S := (· = g + 1)) (u := .bool y.2.begins) (by exact rfl)).st (S := (· = g + 1)) (u := .bool y.2.ends) (by exact rfl)).st (S := (· = g + 1)) (u := .int .i64 y.2.ms) (by exact rfl)).st (S := (· = g + 1)) (u := .int .i64 y.2.timer) (by exact rfl))
  have hbq3_2 : Blk w3 (g + 1) 90 [.slice P2.A1 y.2.sigs.length P2.c1, .slice P2.A2 y.2.units.length P2.c2, .bool y.2.begins, .bool y.2.ends, .int .i64 y.2.ms, .int .i64 y.2.timer] := by rw [q_w3.out]; exact ((((((hoq3_1R.set 0 (.slice P2.A1 y.2.sigs.length P2.c1)).set 1 (.slice P2.A2 y.2.units.length P2.c2)).set 2 (.bool y.2.begins)).set 3 (.bool y.2.ends)).set 4 (.int .i64 y.2.ms)).set 5 (.int .i64 y.2.timer))
  have hoq3_2C := htq3_2.blk hbq3_1 (by intro e; have e : g = g + 1 := e; omega)
  have hoq3_2OC := htq3_2.blk hoq3_1OC (by intro e; have e : g + 1 + 1 = g + 1 := e; omega)
  have hoq3_2OR := htq3_2.blk hoq3_1OR (by intro e; have e : g + 1 + 1 + 1 = g + 1 := e; omega)
  have hrq3_2 := hrq3_1.touch htq3_2 (fun k e => by have e : k = g + 1 := e; rw [e]; exact HGR.out)
  have hTq3_2 : Touch (OfAct K) w w3 := hTq3_1.trans htq3_2 (fun k _ e => by have e : k = g + 1 := e; intro hk; have := HLIM.out k hk; omega)
  clear xC0 fC0 xC1 fC1 xC2 fC2 xC3 fC3 xC4 fC4 xC5 fC5 xC6 fC6 xC7 fC7 xR0 fR0 xR1 fR1 xR2 fR2 xR3 fR3 xR4 fR4 xR5 fR5
  have HBC3 : Hid (Blk w3 (g) 59 [.int .i64 y.1.most, .int .i64 y.1.credit, .int .i64 y.1.state, .int .i64 y.1.sq, .int .i64 y.1.peer, .int .i64 y.1.cc, .int .i64 y.1.ms, .string y.1.data]) := hoq3_2C
  have HBR3 : Hid (Blk w3 (g + 1) 90 [.slice P2.A1 y.2.sigs.length P2.c1, .slice P2.A2 y.2.units.length P2.c2, .bool y.2.begins, .bool y.2.ends, .int .i64 y.2.ms, .int .i64 y.2.timer]) := hbq3_2
  have HBOC3 : Hid (Blk w3 (g + 1 + 1) 59 [.int .i64 0, .int .i64 0, .int .i64 0, .int .i64 0, .int .i64 0, .int .i64 0, .int .i64 0, .string { data := #[] }]) := hoq3_2OC
  have HBOR3 : Hid (Blk w3 (g + 1 + 1 + 1) 90 [.slice none 0 0, .slice none 0 0, .bool false, .bool false, .int .i64 0, .int .i64 0]) := hoq3_2OR
  have HR3 := Lib.hid hrq3_2
  have HT3 : Hid (Touch (OfAct K) w w3) := hTq3_2
  clear HBC2 HBR2 HBOC2 HBOR2 HR2 HT2 htq3_1 hbq3_1 hrq3_1 hTq3_1 hoq3_1R hoq3_1OC hoq3_1OR htq3_2 hbq3_2 hrq3_2 hTq3_2 hoq3_2C hoq3_2OC hoq3_2OR
  rw [← q_w3.out]
  clear q_w3
  have xC0 : w3.cell? ⟨g, 0, none⟩ = some (.int .i64 y.1.most) := HBC3.out.cell 0
  have xC1 : w3.cell? ⟨g, 1, none⟩ = some (.int .i64 y.1.credit) := HBC3.out.cell 1
  have xC2 : w3.cell? ⟨g, 2, none⟩ = some (.int .i64 y.1.state) := HBC3.out.cell 2
  have xC3 : w3.cell? ⟨g, 3, none⟩ = some (.int .i64 y.1.sq) := HBC3.out.cell 3
  have xC4 : w3.cell? ⟨g, 4, none⟩ = some (.int .i64 y.1.peer) := HBC3.out.cell 4
  have xC5 : w3.cell? ⟨g, 5, none⟩ = some (.int .i64 y.1.cc) := HBC3.out.cell 5
  have xC6 : w3.cell? ⟨g, 6, none⟩ = some (.int .i64 y.1.ms) := HBC3.out.cell 6
  have xC7 : w3.cell? ⟨g, 7, none⟩ = some (.string y.1.data) := HBC3.out.cell 7
  have xR0 : w3.cell? ⟨g + 1, 0, none⟩ = some (.slice P2.A1 y.2.sigs.length P2.c1) := HBR3.out.cell 0
  have fR0 := HBR3.out.frozen 0
  have xR1 : w3.cell? ⟨g + 1, 1, none⟩ = some (.slice P2.A2 y.2.units.length P2.c2) := HBR3.out.cell 1
  have fR1 := HBR3.out.frozen 1
  have xR2 : w3.cell? ⟨g + 1, 2, none⟩ = some (.bool y.2.begins) := HBR3.out.cell 2
  have fR2 := HBR3.out.frozen 2
  have xR3 : w3.cell? ⟨g + 1, 3, none⟩ = some (.bool y.2.ends) := HBR3.out.cell 3
  have fR3 := HBR3.out.frozen 3
  have xR4 : w3.cell? ⟨g + 1, 4, none⟩ = some (.int .i64 y.2.ms) := HBR3.out.cell 4
  have fR4 := HBR3.out.frozen 4
  have xR5 : w3.cell? ⟨g + 1, 5, none⟩ = some (.int .i64 y.2.timer) := HBR3.out.cell 5
  have fR5 := HBR3.out.frozen 5
  have xOC0 : w3.cell? ⟨g + 1 + 1, 0, none⟩ = some (.int .i64 0) := HBOC3.out.cell 0
  have fOC0 := HBOC3.out.frozen 0
  have xOC1 : w3.cell? ⟨g + 1 + 1, 1, none⟩ = some (.int .i64 0) := HBOC3.out.cell 1
  have fOC1 := HBOC3.out.frozen 1
  have xOC2 : w3.cell? ⟨g + 1 + 1, 2, none⟩ = some (.int .i64 0) := HBOC3.out.cell 2
  have fOC2 := HBOC3.out.frozen 2
  have xOC3 : w3.cell? ⟨g + 1 + 1, 3, none⟩ = some (.int .i64 0) := HBOC3.out.cell 3
  have fOC3 := HBOC3.out.frozen 3
  have xOC4 : w3.cell? ⟨g + 1 + 1, 4, none⟩ = some (.int .i64 0) := HBOC3.out.cell 4
  have fOC4 := HBOC3.out.frozen 4
  have xOC5 : w3.cell? ⟨g + 1 + 1, 5, none⟩ = some (.int .i64 0) := HBOC3.out.cell 5
  have fOC5 := HBOC3.out.frozen 5
  have xOC6 : w3.cell? ⟨g + 1 + 1, 6, none⟩ = some (.int .i64 0) := HBOC3.out.cell 6
  have fOC6 := HBOC3.out.frozen 6
  have xOC7 : w3.cell? ⟨g + 1 + 1, 7, none⟩ = some (.string { data := #[] }) := HBOC3.out.cell 7
  have fOC7 := HBOC3.out.frozen 7
  have xOR0 : w3.cell? ⟨g + 1 + 1 + 1, 0, none⟩ = some (.slice none 0 0) := HBOR3.out.cell 0
  have fOR0 := HBOR3.out.frozen 0
  have xOR1 : w3.cell? ⟨g + 1 + 1 + 1, 1, none⟩ = some (.slice none 0 0) := HBOR3.out.cell 1
  have fOR1 := HBOR3.out.frozen 1
  have xOR2 : w3.cell? ⟨g + 1 + 1 + 1, 2, none⟩ = some (.bool false) := HBOR3.out.cell 2
  have fOR2 := HBOR3.out.frozen 2
  have xOR3 : w3.cell? ⟨g + 1 + 1 + 1, 3, none⟩ = some (.bool false) := HBOR3.out.cell 3
  have fOR3 := HBOR3.out.frozen 3
  have xOR4 : w3.cell? ⟨g + 1 + 1 + 1, 4, none⟩ = some (.int .i64 0) := HBOR3.out.cell 4
  have fOR4 := HBOR3.out.frozen 4
  have xOR5 : w3.cell? ⟨g + 1 + 1 + 1, 5, none⟩ = some (.int .i64 0) := HBOR3.out.cell 5
  have fOR5 := HBOR3.out.frozen 5
  go_upto_region 4 with (fail)
  have htq4_1 : Touch (· = g + 1) w3 ((w3.setCell ⟨g + 1, 2, none⟩ (.bool true)).setCell ⟨g + 1, 4, none⟩ (.int .i64 y.1.ms)) := (((Touch.refl _ w3).st (S := (· = g + 1)) (u := .bool true) (by exact rfl)).st (S := (· = g + 1)) (u := .int .i64 y.1.ms) (by exact rfl))
  have hbq4_1 : Blk ((w3.setCell ⟨g + 1, 2, none⟩ (.bool true)).setCell ⟨g + 1, 4, none⟩ (.int .i64 y.1.ms)) (g + 1) 90 [.slice P2.A1 y.2.sigs.length P2.c1, .slice P2.A2 y.2.units.length P2.c2, .bool true, .bool y.2.ends, .int .i64 y.1.ms, .int .i64 y.2.timer] := ((HBR3.out.set 2 (.bool true)).set 4 (.int .i64 y.1.ms))
  have hoq4_1C := htq4_1.blk HBC3.out (by intro e; have e : g = g + 1 := e; omega)
  have hoq4_1OC := htq4_1.blk HBOC3.out (by intro e; have e : g + 1 + 1 = g + 1 := e; omega)
  have hoq4_1OR := htq4_1.blk HBOR3.out (by intro e; have e : g + 1 + 1 + 1 = g + 1 := e; omega)
  have hrq4_1 := HR3.out.touch htq4_1 (fun k e => by have e : k = g + 1 := e; rw [e]; exact HGR.out)
  have hTq4_1 : Touch (OfAct K) w ((w3.setCell ⟨g + 1, 2, none⟩ (.bool true)).setCell ⟨g + 1, 4, none⟩ (.int .i64 y.1.ms)) := HT3.out.trans htq4_1 (fun k _ e => by have e : k = g + 1 := e; intro hk; have := HLIM.out k hk; omega)
  clear xC0 xC1 xC2 xC3 xC4 xC5 xC6 xC7 xR0 fR0 xR1 fR1 xR2 fR2 xR3 fR3 xR4 fR4 xR5 fR5 xOC0 fOC0 xOC1 fOC1 xOC2 fOC2 xOC3 fOC3 xOC4 fOC4 xOC5 fOC5 xOC6 fOC6 xOC7 fOC7 xOR0 fOR0 xOR1 fOR1 xOR2 fOR2 xOR3 fOR3 xOR4 fOR4 xOR5 fOR5
  have HBC4 : Hid (Blk ((w3.setCell ⟨g + 1, 2, none⟩ (.bool true)).setCell ⟨g + 1, 4, none⟩ (.int .i64 y.1.ms)) (g) 59 [.int .i64 y.1.most, .int .i64 y.1.credit, .int .i64 y.1.state, .int .i64 y.1.sq, .int .i64 y.1.peer, .int .i64 y.1.cc, .int .i64 y.1.ms, .string y.1.data]) := hoq4_1C
  have HBR4 : Hid (Blk ((w3.setCell ⟨g + 1, 2, none⟩ (.bool true)).setCell ⟨g + 1, 4, none⟩ (.int .i64 y.1.ms)) (g + 1) 90 [.slice P2.A1 y.2.sigs.length P2.c1, .slice P2.A2 y.2.units.length P2.c2, .bool true, .bool y.2.ends, .int .i64 y.1.ms, .int .i64 y.2.timer]) := hbq4_1
  have HBOC4 : Hid (Blk ((w3.setCell ⟨g + 1, 2, none⟩ (.bool true)).setCell ⟨g + 1, 4, none⟩ (.int .i64 y.1.ms)) (g + 1 + 1) 59 [.int .i64 0, .int .i64 0, .int .i64 0, .int .i64 0, .int .i64 0, .int .i64 0, .int .i64 0, .string { data := #[] }]) := hoq4_1OC
  have HBOR4 : Hid (Blk ((w3.setCell ⟨g + 1, 2, none⟩ (.bool true)).setCell ⟨g + 1, 4, none⟩ (.int .i64 y.1.ms)) (g + 1 + 1 + 1) 90 [.slice none 0 0, .slice none 0 0, .bool false, .bool false, .int .i64 0, .int .i64 0]) := hoq4_1OR
  have HR4 := Lib.hid hrq4_1
  have HT4 : Hid (Touch (OfAct K) w ((w3.setCell ⟨g + 1, 2, none⟩ (.bool true)).setCell ⟨g + 1, 4, none⟩ (.int .i64 y.1.ms))) := hTq4_1
  clear HBC3 HBR3 HBOC3 HBOR3 HR3 HT3 htq4_1 hbq4_1 hrq4_1 hTq4_1 hoq4_1C hoq4_1OC hoq4_1OR
  generalize ((w3.setCell ⟨g + 1, 2, none⟩ (.bool true)).setCell ⟨g + 1, 4, none⟩ (.int .i64 y.1.ms)) = w4 at *
  have xC0 : w4.cell? ⟨g, 0, none⟩ = some (.int .i64 y.1.most) := HBC4.out.cell 0
  have xC1 : w4.cell? ⟨g, 1, none⟩ = some (.int .i64 y.1.credit) := HBC4.out.cell 1
  have xC2 : w4.cell? ⟨g, 2, none⟩ = some (.int .i64 y.1.state) := HBC4.out.cell 2
  have xC3 : w4.cell? ⟨g, 3, none⟩ = some (.int .i64 y.1.sq) := HBC4.out.cell 3
  have xC4 : w4.cell? ⟨g, 4, none⟩ = some (.int .i64 y.1.peer) := HBC4.out.cell 4
  have xC5 : w4.cell? ⟨g, 5, none⟩ = some (.int .i64 y.1.cc) := HBC4.out.cell 5
  have xC6 : w4.cell? ⟨g, 6, none⟩ = some (.int .i64 y.1.ms) := HBC4.out.cell 6
  have xC7 : w4.cell? ⟨g, 7, none⟩ = some (.string y.1.data) := HBC4.out.cell 7
  have xR0 : w4.cell? ⟨g + 1, 0, none⟩ = some (.slice P2.A1 y.2.sigs.length P2.c1) := HBR4.out.cell 0
  have xR1 : w4.cell? ⟨g + 1, 1, none⟩ = some (.slice P2.A2 y.2.units.length P2.c2) := HBR4.out.cell 1
  have xR2 : w4.cell? ⟨g + 1, 2, none⟩ = some (.bool true) := HBR4.out.cell 2
  have xR3 : w4.cell? ⟨g + 1, 3, none⟩ = some (.bool y.2.ends) := HBR4.out.cell 3
  have xR4 : w4.cell? ⟨g + 1, 4, none⟩ = some (.int .i64 y.1.ms) := HBR4.out.cell 4
  have xR5 : w4.cell? ⟨g + 1, 5, none⟩ = some (.int .i64 y.2.timer) := HBR4.out.cell 5
  have xOC0 : w4.cell? ⟨g + 1 + 1, 0, none⟩ = some (.int .i64 0) := HBOC4.out.cell 0
  have fOC0 := HBOC4.out.frozen 0
  have xOC1 : w4.cell? ⟨g + 1 + 1, 1, none⟩ = some (.int .i64 0) := HBOC4.out.cell 1
  have fOC1 := HBOC4.out.frozen 1
  have xOC2 : w4.cell? ⟨g + 1 + 1, 2, none⟩ = some (.int .i64 0) := HBOC4.out.cell 2
  have fOC2 := HBOC4.out.frozen 2
  have xOC3 : w4.cell? ⟨g + 1 + 1, 3, none⟩ = some (.int .i64 0) := HBOC4.out.cell 3
  have fOC3 := HBOC4.out.frozen 3
  have xOC4 : w4.cell? ⟨g + 1 + 1, 4, none⟩ = some (.int .i64 0) := HBOC4.out.cell 4
  have fOC4 := HBOC4.out.frozen 4
  have xOC5 : w4.cell? ⟨g + 1 + 1, 5, none⟩ = some (.int .i64 0) := HBOC4.out.cell 5
  have fOC5 := HBOC4.out.frozen 5
  have xOC6 : w4.cell? ⟨g + 1 + 1, 6, none⟩ = some (.int .i64 0) := HBOC4.out.cell 6
  have fOC6 := HBOC4.out.frozen 6
  have xOC7 : w4.cell? ⟨g + 1 + 1, 7, none⟩ = some (.string { data := #[] }) := HBOC4.out.cell 7
  have fOC7 := HBOC4.out.frozen 7
  have xOR0 : w4.cell? ⟨g + 1 + 1 + 1, 0, none⟩ = some (.slice none 0 0) := HBOR4.out.cell 0
  have fOR0 := HBOR4.out.frozen 0
  have xOR1 : w4.cell? ⟨g + 1 + 1 + 1, 1, none⟩ = some (.slice none 0 0) := HBOR4.out.cell 1
  have fOR1 := HBOR4.out.frozen 1
  have xOR2 : w4.cell? ⟨g + 1 + 1 + 1, 2, none⟩ = some (.bool false) := HBOR4.out.cell 2
  have fOR2 := HBOR4.out.frozen 2
  have xOR3 : w4.cell? ⟨g + 1 + 1 + 1, 3, none⟩ = some (.bool false) := HBOR4.out.cell 3
  have fOR3 := HBOR4.out.frozen 3
  have xOR4 : w4.cell? ⟨g + 1 + 1 + 1, 4, none⟩ = some (.int .i64 0) := HBOR4.out.cell 4
  have fOR4 := HBOR4.out.frozen 4
  have xOR5 : w4.cell? ⟨g + 1 + 1 + 1, 5, none⟩ = some (.int .i64 0) := HBOR4.out.cell 5
  have fOR5 := HBOR4.out.frozen 5
  go_region
  have htq5_1 : Touch (· = g + 1 + 1) w4 ((((((((w4.setCell ⟨g + 1 + 1, 0, none⟩ (.int .i64 y.1.most)).setCell ⟨g + 1 + 1, 1, none⟩ (.int .i64 y.1.credit)).setCell ⟨g + 1 + 1, 2, none⟩ (.int .i64 y.1.state)).setCell ⟨g + 1 + 1, 3, none⟩ (.int .i64 y.1.sq)).setCell ⟨g + 1 + 1, 4, none⟩ (.int .i64 y.1.peer)).setCell ⟨g + 1 + 1, 5, none⟩ (.int .i64 y.1.cc)).setCell ⟨g + 1 + 1, 6, none⟩ (.int .i64 y.1.ms)).setCell ⟨g + 1 + 1, 7, none⟩ (.string y.1.data)) := (((((((((Touch.refl _ w4).st (S := (· = g + 1 + 1)) (u := .int .i64 y.1.most) (by exact rfl)).st (S := (· = g + 1 + 1)) (u := .int .i64 y.1.credit) (by exact rfl)).st (S := (· = g + 1 + 1)) (u := .int .i64 y.1.state) (by exact rfl)).st (S := (· = g + 1 + 1)) (u := .int .i64 y.1.sq) (by exact rfl)).st (S := (· = g + 1 + 1)) (u := .int .i64 y.1.peer) (by exact rfl)).st (S := (· = g + 1 + 1)) (u := .int .i64 y.1.cc) (by exact rfl)).st (S := (· = g + 1 + 1)) (u := .int .i64 y.1.ms) (by exact rfl)).st (S := (· = g + 1 + 1)) (u := .string y.1.data) (by exact rfl))
  have hbq5_1 : Blk ((((((((w4.setCell ⟨g + 1 + 1, 0, none⟩ (.int .i64 y.1.most)).setCell ⟨g + 1 + 1, 1, none⟩ (.int .i64 y.1.credit)).setCell ⟨g + 1 + 1, 2, none⟩ (.int .i64 y.1.state)).setCell ⟨g + 1 + 1, 3, none⟩ (.int .i64 y.1.sq)).setCell ⟨g + 1 + 1, 4, none⟩ (.int .i64 y.1.peer)).setCell ⟨g + 1 + 1, 5, none⟩ (.int .i64 y.1.cc)).setCell ⟨g + 1 + 1, 6, none⟩ (.int .i64 y.1.ms)).setCell ⟨g + 1 + 1, 7, none⟩ (.string y.1.data)) (g + 1 + 1) 59 [.int .i64 y.1.most, .int .i64 y.1.credit, .int .i64 y.1.state, .int .i64 y.1.sq, .int .i64 y.1.peer, .int .i64 y.1.cc, .int .i64 y.1.ms, .string y.1.data] := ((((((((HBOC4.out.set 0 (.int .i64 y.1.most)).set 1 (.int .i64 y.1.credit)).set 2 (.int .i64 y.1.state)).set 3 (.int .i64 y.1.sq)).set 4 (.int .i64 y.1.peer)).set 5 (.int .i64 y.1.cc)).set 6 (.int .i64 y.1.ms)).set 7 (.string y.1.data))
  have hoq5_1C := htq5_1.blk HBC4.out (by intro e; have e : g = g + 1 + 1 := e; omega)
  have hoq5_1R := htq5_1.blk HBR4.out (by intro e; have e : g + 1 = g + 1 + 1 := e; omega)
  have hoq5_1OR := htq5_1.blk HBOR4.out (by intro e; have e : g + 1 + 1 + 1 = g + 1 + 1 := e; omega)
  have hrq5_1 := HR4.out.touch htq5_1 (fun k e => by have e : k = g + 1 + 1 := e; rw [e]; exact HGOC.out)
  have hTq5_1 : Touch (OfAct K) w ((((((((w4.setCell ⟨g + 1 + 1, 0, none⟩ (.int .i64 y.1.most)).setCell ⟨g + 1 + 1, 1, none⟩ (.int .i64 y.1.credit)).setCell ⟨g + 1 + 1, 2, none⟩ (.int .i64 y.1.state)).setCell ⟨g + 1 + 1, 3, none⟩ (.int .i64 y.1.sq)).setCell ⟨g + 1 + 1, 4, none⟩ (.int .i64 y.1.peer)).setCell ⟨g + 1 + 1, 5, none⟩ (.int .i64 y.1.cc)).setCell ⟨g + 1 + 1, 6, none⟩ (.int .i64 y.1.ms)).setCell ⟨g + 1 + 1, 7, none⟩ (.string y.1.data)) := HT4.out.trans htq5_1 (fun k _ e => by have e : k = g + 1 + 1 := e; intro hk; have := HLIM.out k hk; omega)
  have htq5_2 : Touch (· = g + 1 + 1 + 1) ((((((((w4.setCell ⟨g + 1 + 1, 0, none⟩ (.int .i64 y.1.most)).setCell ⟨g + 1 + 1, 1, none⟩ (.int .i64 y.1.credit)).setCell ⟨g + 1 + 1, 2, none⟩ (.int .i64 y.1.state)).setCell ⟨g + 1 + 1, 3, none⟩ (.int .i64 y.1.sq)).setCell ⟨g + 1 + 1, 4, none⟩ (.int .i64 y.1.peer)).setCell ⟨g + 1 + 1, 5, none⟩ (.int .i64 y.1.cc)).setCell ⟨g + 1 + 1, 6, none⟩ (.int .i64 y.1.ms)).setCell ⟨g + 1 + 1, 7, none⟩ (.string y.1.data)) ((((((((((((((w4.setCell ⟨g + 1 + 1, 0, none⟩ (.int .i64 y.1.most)).setCell ⟨g + 1 + 1, 1, none⟩ (.int .i64 y.1.credit)).setCell ⟨g + 1 + 1, 2, none⟩ (.int .i64 y.1.state)).setCell ⟨g + 1 + 1, 3, none⟩ (.int .i64 y.1.sq)).setCell ⟨g + 1 + 1, 4, none⟩ (.int .i64 y.1.peer)).setCell ⟨g + 1 + 1, 5, none⟩ (.int .i64 y.1.cc)).setCell ⟨g + 1 + 1, 6, none⟩ (.int .i64 y.1.ms)).setCell ⟨g + 1 + 1, 7, none⟩ (.string y.1.data)).setCell ⟨g + 1 + 1 + 1, 0, none⟩ (.slice P2.A1 y.2.sigs.length P2.c1)).setCell ⟨g + 1 + 1 + 1, 1, none⟩ (.slice P2.A2 y.2.units.length P2.c2)).setCell ⟨g + 1 + 1 + 1, 2, none⟩ (.bool true)).setCell ⟨g + 1 + 1 + 1, 3, none⟩ (.bool y.2.ends)).setCell ⟨g + 1 + 1 + 1, 4, none⟩ (.int .i64 y.1.ms)).setCell ⟨g + 1 + 1 + 1, 5, none⟩ (.int .i64 y.2.timer)) := (((((((Touch.refl _ ((((((((w4.setCell ⟨g + 1 + 1, 0, none⟩ (.int .i64 y.1.most)).setCell ⟨g + 1 + 1, 1, none⟩ (.int .i64 y.1.credit)).setCell ⟨g + 1 + 1, 2, none⟩ (.int .i64 y.1.state)).setCell ⟨g + 1 + 1, 3, none⟩ (.int .i64 y.1.sq)).setCell ⟨g + 1 + 1, 4, none⟩ (.int .i64 y.1.peer)).setCell ⟨g + 1 + 1, 5, none⟩ (.int .i64 y.1.cc)).setCell ⟨g + 1 + 1, 6, none⟩ (.int .i64 y.1.ms)).setCell ⟨g + 1 + 1, 7, none⟩ (.string y.1.data))).st (S := (· = g + 1 + 1 + 1)) (u := .slice P2.A1 y.2.sigs.length P2.c1) (by exact rfl)).st (S := (· = g + 1 + 1 + 1)) (u := .slice P2.A2 y.2.units.length P2.c2) (by exact rfl)).st (S := (· = g + 1 + 1 + 1)) (u := .bool true) (by exact rfl)).st (S := (· = g + 1 + 1 + 1)) (u := .bool y.2.ends) (by exact rfl)).st (S := (· = g + 1 + 1 + 1)) (u := .int .i64 y.1.ms) (by exact rfl)).st (S := (· = g + 1 + 1 + 1)) (u := .int .i64 y.2.timer) (by exact rfl))
  have hbq5_2 : Blk ((((((((((((((w4.setCell ⟨g + 1 + 1, 0, none⟩ (.int .i64 y.1.most)).setCell ⟨g + 1 + 1, 1, none⟩ (.int .i64 y.1.credit)).setCell ⟨g + 1 + 1, 2, none⟩ (.int .i64 y.1.state)).setCell ⟨g + 1 + 1, 3, none⟩ (.int .i64 y.1.sq)).setCell ⟨g + 1 + 1, 4, none⟩ (.int .i64 y.1.peer)).setCell ⟨g + 1 + 1, 5, none⟩ (.int .i64 y.1.cc)).setCell ⟨g + 1 + 1, 6, none⟩ (.int .i64 y.1.ms)).setCell ⟨g + 1 + 1, 7, none⟩ (.string y.1.data)).setCell ⟨g + 1 + 1 + 1, 0, none⟩ (.slice P2.A1 y.2.sigs.length P2.c1)).setCell ⟨g + 1 + 1 + 1, 1, none⟩ (.slice P2.A2 y.2.units.length P2.c2)).setCell ⟨g + 1 + 1 + 1, 2, none⟩ (.bool true)).setCell ⟨g + 1 + 1 + 1, 3, none⟩ (.bool y.2.ends)).setCell ⟨g + 1 + 1 + 1, 4, none⟩ (.int .i64 y.1.ms)).setCell ⟨g + 1 + 1 + 1, 5, none⟩ (.int .i64 y.2.timer)) (g + 1 + 1 + 1) 90 [.slice P2.A1 y.2.sigs.length P2.c1, .slice P2.A2 y.2.units.length P2.c2, .bool true, .bool y.2.ends, .int .i64 y.1.ms, .int .i64 y.2.timer] := ((((((hoq5_1OR.set 0 (.slice P2.A1 y.2.sigs.length P2.c1)).set 1 (.slice P2.A2 y.2.units.length P2.c2)).set 2 (.bool true)).set 3 (.bool y.2.ends)).set 4 (.int .i64 y.1.ms)).set 5 (.int .i64 y.2.timer))
  have hoq5_2C := htq5_2.blk hoq5_1C (by intro e; have e : g = g + 1 + 1 + 1 := e; omega)
  have hoq5_2R := htq5_2.blk hoq5_1R (by intro e; have e : g + 1 = g + 1 + 1 + 1 := e; omega)
  have hoq5_2OC := htq5_2.blk hbq5_1 (by intro e; have e : g + 1 + 1 = g + 1 + 1 + 1 := e; omega)
  have hrq5_2 := hrq5_1.touch htq5_2 (fun k e => by have e : k = g + 1 + 1 + 1 := e; rw [e]; exact HGOR.out)
  have hTq5_2 : Touch (OfAct K) w ((((((((((((((w4.setCell ⟨g + 1 + 1, 0, none⟩ (.int .i64 y.1.most)).setCell ⟨g + 1 + 1, 1, none⟩ (.int .i64 y.1.credit)).setCell ⟨g + 1 + 1, 2, none⟩ (.int .i64 y.1.state)).setCell ⟨g + 1 + 1, 3, none⟩ (.int .i64 y.1.sq)).setCell ⟨g + 1 + 1, 4, none⟩ (.int .i64 y.1.peer)).setCell ⟨g + 1 + 1, 5, none⟩ (.int .i64 y.1.cc)).setCell ⟨g + 1 + 1, 6, none⟩ (.int .i64 y.1.ms)).setCell ⟨g + 1 + 1, 7, none⟩ (.string y.1.data)).setCell ⟨g + 1 + 1 + 1, 0, none⟩ (.slice P2.A1 y.2.sigs.length P2.c1)).setCell ⟨g + 1 + 1 + 1, 1, none⟩ (.slice P2.A2 y.2.units.length P2.c2)).setCell ⟨g + 1 + 1 + 1, 2, none⟩ (.bool true)).setCell ⟨g + 1 + 1 + 1, 3, none⟩ (.bool y.2.ends)).setCell ⟨g + 1 + 1 + 1, 4, none⟩ (.int .i64 y.1.ms)).setCell ⟨g + 1 + 1 + 1, 5, none⟩ (.int .i64 y.2.timer)) := hTq5_1.trans htq5_2 (fun k _ e => by have e : k = g + 1 + 1 + 1 := e; intro hk; have := HLIM.out k hk; omega)
  clear xC0 xC1 xC2 xC3 xC4 xC5 xC6 xC7 xR0 xR1 xR2 xR3 xR4 xR5 xOC0 fOC0 xOC1 fOC1 xOC2 fOC2 xOC3 fOC3 xOC4 fOC4 xOC5 fOC5 xOC6 fOC6 xOC7 fOC7 xOR0 fOR0 xOR1 fOR1 xOR2 fOR2 xOR3 fOR3 xOR4 fOR4 xOR5 fOR5
  have HBC5 : Hid (Blk ((((((((((((((w4.setCell ⟨g + 1 + 1, 0, none⟩ (.int .i64 y.1.most)).setCell ⟨g + 1 + 1, 1, none⟩ (.int .i64 y.1.credit)).setCell ⟨g + 1 + 1, 2, none⟩ (.int .i64 y.1.state)).setCell ⟨g + 1 + 1, 3, none⟩ (.int .i64 y.1.sq)).setCell ⟨g + 1 + 1, 4, none⟩ (.int .i64 y.1.peer)).setCell ⟨g + 1 + 1, 5, none⟩ (.int .i64 y.1.cc)).setCell ⟨g + 1 + 1, 6, none⟩ (.int .i64 y.1.ms)).setCell ⟨g + 1 + 1, 7, none⟩ (.string y.1.data)).setCell ⟨g + 1 + 1 + 1, 0, none⟩ (.slice P2.A1 y.2.sigs.length P2.c1)).setCell ⟨g + 1 + 1 + 1, 1, none⟩ (.slice P2.A2 y.2.units.length P2.c2)).setCell ⟨g + 1 + 1 + 1, 2, none⟩ (.bool true)).setCell ⟨g + 1 + 1 + 1, 3, none⟩ (.bool y.2.ends)).setCell ⟨g + 1 + 1 + 1, 4, none⟩ (.int .i64 y.1.ms)).setCell ⟨g + 1 + 1 + 1, 5, none⟩ (.int .i64 y.2.timer)).drew (g) 59 [.int .i64 y.1.most, .int .i64 y.1.credit, .int .i64 y.1.state, .int .i64 y.1.sq, .int .i64 y.1.peer, .int .i64 y.1.cc, .int .i64 y.1.ms, .string y.1.data]) := Blk.drew hoq5_2C
  have HBR5 : Hid (Blk ((((((((((((((w4.setCell ⟨g + 1 + 1, 0, none⟩ (.int .i64 y.1.most)).setCell ⟨g + 1 + 1, 1, none⟩ (.int .i64 y.1.credit)).setCell ⟨g + 1 + 1, 2, none⟩ (.int .i64 y.1.state)).setCell ⟨g + 1 + 1, 3, none⟩ (.int .i64 y.1.sq)).setCell ⟨g + 1 + 1, 4, none⟩ (.int .i64 y.1.peer)).setCell ⟨g + 1 + 1, 5, none⟩ (.int .i64 y.1.cc)).setCell ⟨g + 1 + 1, 6, none⟩ (.int .i64 y.1.ms)).setCell ⟨g + 1 + 1, 7, none⟩ (.string y.1.data)).setCell ⟨g + 1 + 1 + 1, 0, none⟩ (.slice P2.A1 y.2.sigs.length P2.c1)).setCell ⟨g + 1 + 1 + 1, 1, none⟩ (.slice P2.A2 y.2.units.length P2.c2)).setCell ⟨g + 1 + 1 + 1, 2, none⟩ (.bool true)).setCell ⟨g + 1 + 1 + 1, 3, none⟩ (.bool y.2.ends)).setCell ⟨g + 1 + 1 + 1, 4, none⟩ (.int .i64 y.1.ms)).setCell ⟨g + 1 + 1 + 1, 5, none⟩ (.int .i64 y.2.timer)).drew (g + 1) 90 [.slice P2.A1 y.2.sigs.length P2.c1, .slice P2.A2 y.2.units.length P2.c2, .bool true, .bool y.2.ends, .int .i64 y.1.ms, .int .i64 y.2.timer]) := Blk.drew hoq5_2R
  have HBOC5 : Hid (Blk ((((((((((((((w4.setCell ⟨g + 1 + 1, 0, none⟩ (.int .i64 y.1.most)).setCell ⟨g + 1 + 1, 1, none⟩ (.int .i64 y.1.credit)).setCell ⟨g + 1 + 1, 2, none⟩ (.int .i64 y.1.state)).setCell ⟨g + 1 + 1, 3, none⟩ (.int .i64 y.1.sq)).setCell ⟨g + 1 + 1, 4, none⟩ (.int .i64 y.1.peer)).setCell ⟨g + 1 + 1, 5, none⟩ (.int .i64 y.1.cc)).setCell ⟨g + 1 + 1, 6, none⟩ (.int .i64 y.1.ms)).setCell ⟨g + 1 + 1, 7, none⟩ (.string y.1.data)).setCell ⟨g + 1 + 1 + 1, 0, none⟩ (.slice P2.A1 y.2.sigs.length P2.c1)).setCell ⟨g + 1 + 1 + 1, 1, none⟩ (.slice P2.A2 y.2.units.length P2.c2)).setCell ⟨g + 1 + 1 + 1, 2, none⟩ (.bool true)).setCell ⟨g + 1 + 1 + 1, 3, none⟩ (.bool y.2.ends)).setCell ⟨g + 1 + 1 + 1, 4, none⟩ (.int .i64 y.1.ms)).setCell ⟨g + 1 + 1 + 1, 5, none⟩ (.int .i64 y.2.timer)).drew (g + 1 + 1) 59 [.int .i64 y.1.most, .int .i64 y.1.credit, .int .i64 y.1.state, .int .i64 y.1.sq, .int .i64 y.1.peer, .int .i64 y.1.cc, .int .i64 y.1.ms, .string y.1.data]) := Blk.drew hoq5_2OC
  have HBOR5 : Hid (Blk ((((((((((((((w4.setCell ⟨g + 1 + 1, 0, none⟩ (.int .i64 y.1.most)).setCell ⟨g + 1 + 1, 1, none⟩ (.int .i64 y.1.credit)).setCell ⟨g + 1 + 1, 2, none⟩ (.int .i64 y.1.state)).setCell ⟨g + 1 + 1, 3, none⟩ (.int .i64 y.1.sq)).setCell ⟨g + 1 + 1, 4, none⟩ (.int .i64 y.1.peer)).setCell ⟨g + 1 + 1, 5, none⟩ (.int .i64 y.1.cc)).setCell ⟨g + 1 + 1, 6, none⟩ (.int .i64 y.1.ms)).setCell ⟨g + 1 + 1, 7, none⟩ (.string y.1.data)).setCell ⟨g + 1 + 1 + 1, 0, none⟩ (.slice P2.A1 y.2.sigs.length P2.c1)).setCell ⟨g + 1 + 1 + 1, 1, none⟩ (.slice P2.A2 y.2.units.length P2.c2)).setCell ⟨g + 1 + 1 + 1, 2, none⟩ (.bool true)).setCell ⟨g + 1 + 1 + 1, 3, none⟩ (.bool y.2.ends)).setCell ⟨g + 1 + 1 + 1, 4, none⟩ (.int .i64 y.1.ms)).setCell ⟨g + 1 + 1 + 1, 5, none⟩ (.int .i64 y.2.timer)).drew (g + 1 + 1 + 1) 90 [.slice P2.A1 y.2.sigs.length P2.c1, .slice P2.A2 y.2.units.length P2.c2, .bool true, .bool y.2.ends, .int .i64 y.1.ms, .int .i64 y.2.timer]) := Blk.drew hbq5_2
  have HR5 := Lib.hid (RIn.old hrq5_2 (Touch.refl _ ((((((((((((((w4.setCell ⟨g + 1 + 1, 0, none⟩ (.int .i64 y.1.most)).setCell ⟨g + 1 + 1, 1, none⟩ (.int .i64 y.1.credit)).setCell ⟨g + 1 + 1, 2, none⟩ (.int .i64 y.1.state)).setCell ⟨g + 1 + 1, 3, none⟩ (.int .i64 y.1.sq)).setCell ⟨g + 1 + 1, 4, none⟩ (.int .i64 y.1.peer)).setCell ⟨g + 1 + 1, 5, none⟩ (.int .i64 y.1.cc)).setCell ⟨g + 1 + 1, 6, none⟩ (.int .i64 y.1.ms)).setCell ⟨g + 1 + 1, 7, none⟩ (.string y.1.data)).setCell ⟨g + 1 + 1 + 1, 0, none⟩ (.slice P2.A1 y.2.sigs.length P2.c1)).setCell ⟨g + 1 + 1 + 1, 1, none⟩ (.slice P2.A2 y.2.units.length P2.c2)).setCell ⟨g + 1 + 1 + 1, 2, none⟩ (.bool true)).setCell ⟨g + 1 + 1 + 1, 3, none⟩ (.bool y.2.ends)).setCell ⟨g + 1 + 1 + 1, 4, none⟩ (.int .i64 y.1.ms)).setCell ⟨g + 1 + 1 + 1, 5, none⟩ (.int .i64 y.2.timer))).drew)
  have HT5 : Hid (Touch (OfAct K) w ((((((((((((((w4.setCell ⟨g + 1 + 1, 0, none⟩ (.int .i64 y.1.most)).setCell ⟨g + 1 + 1, 1, none⟩ (.int .i64 y.1.credit)).setCell ⟨g + 1 + 1, 2, none⟩ (.int .i64 y.1.state)).setCell ⟨g + 1 + 1, 3, none⟩ (.int .i64 y.1.sq)).setCell ⟨g + 1 + 1, 4, none⟩ (.int .i64 y.1.peer)).setCell ⟨g + 1 + 1, 5, none⟩ (.int .i64 y.1.cc)).setCell ⟨g + 1 + 1, 6, none⟩ (.int .i64 y.1.ms)).setCell ⟨g + 1 + 1, 7, none⟩ (.string y.1.data)).setCell ⟨g + 1 + 1 + 1, 0, none⟩ (.slice P2.A1 y.2.sigs.length P2.c1)).setCell ⟨g + 1 + 1 + 1, 1, none⟩ (.slice P2.A2 y.2.units.length P2.c2)).setCell ⟨g + 1 + 1 + 1, 2, none⟩ (.bool true)).setCell ⟨g + 1 + 1 + 1, 3, none⟩ (.bool y.2.ends)).setCell ⟨g + 1 + 1 + 1, 4, none⟩ (.int .i64 y.1.ms)).setCell ⟨g + 1 + 1 + 1, 5, none⟩ (.int .i64 y.2.timer)).drew) := Touch.drew hTq5_2
  clear HBC4 HBR4 HBOC4 HBOR4 HR4 HT4 htq5_1 hbq5_1 hrq5_1 hTq5_1 hoq5_1C hoq5_1R hoq5_1OR htq5_2 hbq5_2 hrq5_2 hTq5_2 hoq5_2C hoq5_2R hoq5_2OC
  generalize ((((((((((((((w4.setCell ⟨g + 1 + 1, 0, none⟩ (.int .i64 y.1.most)).setCell ⟨g + 1 + 1, 1, none⟩ (.int .i64 y.1.credit)).setCell ⟨g + 1 + 1, 2, none⟩ (.int .i64 y.1.state)).setCell ⟨g + 1 + 1, 3, none⟩ (.int .i64 y.1.sq)).setCell ⟨g + 1 + 1, 4, none⟩ (.int .i64 y.1.peer)).setCell ⟨g + 1 + 1, 5, none⟩ (.int .i64 y.1.cc)).setCell ⟨g + 1 + 1, 6, none⟩ (.int .i64 y.1.ms)).setCell ⟨g + 1 + 1, 7, none⟩ (.string y.1.data)).setCell ⟨g + 1 + 1 + 1, 0, none⟩ (.slice P2.A1 y.2.sigs.length P2.c1)).setCell ⟨g + 1 + 1 + 1, 1, none⟩ (.slice P2.A2 y.2.units.length P2.c2)).setCell ⟨g + 1 + 1 + 1, 2, none⟩ (.bool true)).setCell ⟨g + 1 + 1 + 1, 3, none⟩ (.bool y.2.ends)).setCell ⟨g + 1 + 1 + 1, 4, none⟩ (.int .i64 y.1.ms)).setCell ⟨g + 1 + 1 + 1, 5, none⟩ (.int .i64 y.2.timer)).drew = w5 at *
  have HX : Hid (∀ e, e = .returned (.tuple #[.agg #[.int .i64 y.1.most, .int .i64 y.1.credit, .int .i64 y.1.state, .int .i64 y.1.sq, .int .i64 y.1.peer, .int .i64 y.1.cc, .int .i64 y.1.ms, .string y.1.data], .agg #[.slice P2.A1 y.2.sigs.length P2.c1, .slice P2.A2 y.2.units.length P2.c2, .bool true, .bool y.2.ends, .int .i64 y.1.ms, .int .i64 y.2.timer]]) → RPost K (n + 0) (Cn.ready (s, r)) w e w5) := fun e he => ⟨P2, he.trans (by (rw [HY.out]; rfl)), by (refine ((HR5.out.less HL.out).wide (by omega)).eq ?_ ?_ <;> (rw [HY.out])), HT5.out⟩
  have zOC0 : w5.cell? ⟨g + 1 + 1, 0, none⟩ = some (.int .i64 y.1.most) := HBOC5.out.cell 0
  have zOC1 : w5.cell? ⟨g + 1 + 1, 1, none⟩ = some (.int .i64 y.1.credit) := HBOC5.out.cell 1
  have zOC2 : w5.cell? ⟨g + 1 + 1, 2, none⟩ = some (.int .i64 y.1.state) := HBOC5.out.cell 2
  have zOC3 : w5.cell? ⟨g + 1 + 1, 3, none⟩ = some (.int .i64 y.1.sq) := HBOC5.out.cell 3
  have zOC4 : w5.cell? ⟨g + 1 + 1, 4, none⟩ = some (.int .i64 y.1.peer) := HBOC5.out.cell 4
  have zOC5 : w5.cell? ⟨g + 1 + 1, 5, none⟩ = some (.int .i64 y.1.cc) := HBOC5.out.cell 5
  have zOC6 : w5.cell? ⟨g + 1 + 1, 6, none⟩ = some (.int .i64 y.1.ms) := HBOC5.out.cell 6
  have zOC7 : w5.cell? ⟨g + 1 + 1, 7, none⟩ = some (.string y.1.data) := HBOC5.out.cell 7
  have zOR0 : w5.cell? ⟨g + 1 + 1 + 1, 0, none⟩ = some (.slice P2.A1 y.2.sigs.length P2.c1) := HBOR5.out.cell 0
  have zOR1 : w5.cell? ⟨g + 1 + 1 + 1, 1, none⟩ = some (.slice P2.A2 y.2.units.length P2.c2) := HBOR5.out.cell 1
  have zOR2 : w5.cell? ⟨g + 1 + 1 + 1, 2, none⟩ = some (.bool true) := HBOR5.out.cell 2
  have zOR3 : w5.cell? ⟨g + 1 + 1 + 1, 3, none⟩ = some (.bool y.2.ends) := HBOR5.out.cell 3
  have zOR4 : w5.cell? ⟨g + 1 + 1 + 1, 4, none⟩ = some (.int .i64 y.1.ms) := HBOR5.out.cell 4
  have zOR5 : w5.cell? ⟨g + 1 + 1 + 1, 5, none⟩ = some (.int .i64 y.2.timer) := HBOR5.out.cell 5
  go_wp2
  exact bodyPost_ret (v := _) (by simp [results, Try.results68, go_sem, zOC0, zOC1, zOC2, zOC3, zOC4, zOC5, zOC6, zOC7, zOR0, zOR1, zOR2, zOR3, zOR4, zOR5]) rfl (HX.out _ rfl)

set_option maxHeartbeats 4000000 in
set_option maxRecDepth 100000 in
theorem rbegin_any {K : Nat → Prop} {n : Nat} {w : World} {P : RP} {s : Cn.S} {r : Cn.R} (h : RIn K n w P r) (hn : n ≤ 90) (hq : 0 ≤ s.sq ∧ s.sq ≤ 255) (kind st : Int) (d : ByteArray) (hk : Cn.akind st = kind) :
    Calls Try.prog 66 #[rcV s, rrV P r, .int .i64 kind, .int .i64 st, .string d] w (RPost K (n + 1) (Cn.begin_ (s, r) st d) w) := by
  unfold rcV rrV
  have HQ := Lib.hid hq
  have HK := Lib.hid hk
  obtain ⟨w1, q0⟩ : ∃ x : World, x = ((((w.alloc (.cells #[.int .i64 s.most, .int .i64 s.credit, .int .i64 s.state, .int .i64 s.sq, .int .i64 s.peer, .int .i64 s.cc, .int .i64 s.ms, .string s.data] 59)).alloc (.cells #[.slice P.A1 r.sigs.length P.c1, .slice P.A2 r.units.length P.c2, .bool r.begins, .bool r.ends, .int .i64 r.ms, .int .i64 r.timer] 90)).alloc (.cells #[.int .i64 0, .int .i64 0, .int .i64 0, .int .i64 0, .int .i64 0, .int .i64 0, .int .i64 0, .string { data := #[] }] 59)).alloc (.cells #[.slice none 0 0, .slice none 0 0, .bool false, .bool false, .int .i64 0, .int .i64 0] 90)) := ⟨_, rfl⟩
  have q_w1 := Lib.hid q0
  clear q0
  have HF : Hid (Fresh w w1) := by rw [q_w1.out]; exact ((((Touch.refl _ w).alloc _).alloc _).alloc _).alloc _
  have HBC1 : Hid (Blk w1 (w.heap.size) 59 [.int .i64 s.most, .int .i64 s.credit, .int .i64 s.state, .int .i64 s.sq, .int .i64 s.peer, .int .i64 s.cc, .int .i64 s.ms, .string s.data]) := by
    rw [q_w1.out]
    have := (((Blk.new w 59 [.int .i64 s.most, .int .i64 s.credit, .int .i64 s.state, .int .i64 s.sq, .int .i64 s.peer, .int .i64 s.cc, .int .i64 s.ms, .string s.data]).alloc (.cells #[.slice P.A1 r.sigs.length P.c1, .slice P.A2 r.units.length P.c2, .bool r.begins, .bool r.ends, .int .i64 r.ms, .int .i64 r.timer] 90)).alloc (.cells #[.int .i64 0, .int .i64 0, .int .i64 0, .int .i64 0, .int .i64 0, .int .i64 0, .int .i64 0, .string { data := #[] }] 59)).alloc (.cells #[.slice none 0 0, .slice none 0 0, .bool false, .bool false, .int .i64 0, .int .i64 0] 90)
    exact this
  have HGC : Hid (Kept K w w1 (w.heap.size)) := by rw [q_w1.out]; exact .inr ⟨by omega, by simp; try omega⟩
  have HBR1 : Hid (Blk w1 (w.heap.size + 1) 90 [.slice P.A1 r.sigs.length P.c1, .slice P.A2 r.units.length P.c2, .bool r.begins, .bool r.ends, .int .i64 r.ms, .int .i64 r.timer]) := by
    rw [q_w1.out]
    have := ((Blk.new (w.alloc (.cells #[.int .i64 s.most, .int .i64 s.credit, .int .i64 s.state, .int .i64 s.sq, .int .i64 s.peer, .int .i64 s.cc, .int .i64 s.ms, .string s.data] 59)) 90 [.slice P.A1 r.sigs.length P.c1, .slice P.A2 r.units.length P.c2, .bool r.begins, .bool r.ends, .int .i64 r.ms, .int .i64 r.timer]).alloc (.cells #[.int .i64 0, .int .i64 0, .int .i64 0, .int .i64 0, .int .i64 0, .int .i64 0, .int .i64 0, .string { data := #[] }] 59)).alloc (.cells #[.slice none 0 0, .slice none 0 0, .bool false, .bool false, .int .i64 0, .int .i64 0] 90)
    rwa [show (w.alloc (.cells #[.int .i64 s.most, .int .i64 s.credit, .int .i64 s.state, .int .i64 s.sq, .int .i64 s.peer, .int .i64 s.cc, .int .i64 s.ms, .string s.data] 59)).heap.size = w.heap.size + 1 by simp] at this
  have HGR : Hid (Kept K w w1 (w.heap.size + 1)) := by rw [q_w1.out]; exact .inr ⟨by omega, by simp; try omega⟩
  have HBOC1 : Hid (Blk w1 (w.heap.size + 1 + 1) 59 [.int .i64 0, .int .i64 0, .int .i64 0, .int .i64 0, .int .i64 0, .int .i64 0, .int .i64 0, .string { data := #[] }]) := by
    rw [q_w1.out]
    have := (Blk.new ((w.alloc (.cells #[.int .i64 s.most, .int .i64 s.credit, .int .i64 s.state, .int .i64 s.sq, .int .i64 s.peer, .int .i64 s.cc, .int .i64 s.ms, .string s.data] 59)).alloc (.cells #[.slice P.A1 r.sigs.length P.c1, .slice P.A2 r.units.length P.c2, .bool r.begins, .bool r.ends, .int .i64 r.ms, .int .i64 r.timer] 90)) 59 [.int .i64 0, .int .i64 0, .int .i64 0, .int .i64 0, .int .i64 0, .int .i64 0, .int .i64 0, .string { data := #[] }]).alloc (.cells #[.slice none 0 0, .slice none 0 0, .bool false, .bool false, .int .i64 0, .int .i64 0] 90)
    rwa [show ((w.alloc (.cells #[.int .i64 s.most, .int .i64 s.credit, .int .i64 s.state, .int .i64 s.sq, .int .i64 s.peer, .int .i64 s.cc, .int .i64 s.ms, .string s.data] 59)).alloc (.cells #[.slice P.A1 r.sigs.length P.c1, .slice P.A2 r.units.length P.c2, .bool r.begins, .bool r.ends, .int .i64 r.ms, .int .i64 r.timer] 90)).heap.size = w.heap.size + 1 + 1 by simp] at this
  have HGOC : Hid (Kept K w w1 (w.heap.size + 1 + 1)) := by rw [q_w1.out]; exact .inr ⟨by omega, by simp; try omega⟩
  have HBOR1 : Hid (Blk w1 (w.heap.size + 1 + 1 + 1) 90 [.slice none 0 0, .slice none 0 0, .bool false, .bool false, .int .i64 0, .int .i64 0]) := by
    rw [q_w1.out]
    have := Blk.new (((w.alloc (.cells #[.int .i64 s.most, .int .i64 s.credit, .int .i64 s.state, .int .i64 s.sq, .int .i64 s.peer, .int .i64 s.cc, .int .i64 s.ms, .string s.data] 59)).alloc (.cells #[.slice P.A1 r.sigs.length P.c1, .slice P.A2 r.units.length P.c2, .bool r.begins, .bool r.ends, .int .i64 r.ms, .int .i64 r.timer] 90)).alloc (.cells #[.int .i64 0, .int .i64 0, .int .i64 0, .int .i64 0, .int .i64 0, .int .i64 0, .int .i64 0, .string { data := #[] }] 59)) 90 [.slice none 0 0, .slice none 0 0, .bool false, .bool false, .int .i64 0, .int .i64 0]
    rwa [show (((w.alloc (.cells #[.int .i64 s.most, .int .i64 s.credit, .int .i64 s.state, .int .i64 s.sq, .int .i64 s.peer, .int .i64 s.cc, .int .i64 s.ms, .string s.data] 59)).alloc (.cells #[.slice P.A1 r.sigs.length P.c1, .slice P.A2 r.units.length P.c2, .bool r.begins, .bool r.ends, .int .i64 r.ms, .int .i64 r.timer] 90)).alloc (.cells #[.int .i64 0, .int .i64 0, .int .i64 0, .int .i64 0, .int .i64 0, .int .i64 0, .int .i64 0, .string { data := #[] }] 59)).heap.size = w.heap.size + 1 + 1 + 1 by simp] at this
  have HGOR : Hid (Kept K w w1 (w.heap.size + 1 + 1 + 1)) := by rw [q_w1.out]; exact .inr ⟨by omega, by simp; try omega⟩
  have HL : Hid (∀ k, K k → Kept K w w1 k) := by rw [q_w1.out]; exact fun k e => .inl e
  have HLIM : Hid (∀ k, K k → k < w.heap.size) := h.lim
  have HR1 := Lib.hid (h.keep HF.out)
  have HT1 : Hid (Touch (OfAct K) w w1) := HF.out.mono (fun _ _ e => e.elim)
  clear h hq hk HF
  go_enter Try.func66, Try.ntmps66
  go_upto_region 1 with (fail)
  rw [← q_w1.out]
  clear q_w1
  generalize Kept K w w1 = K1 at *
  generalize w.heap.size = g at *
  have xC0 : w1.cell? ⟨g, 0, none⟩ = some (.int .i64 s.most) := HBC1.out.cell 0
  have fC0 := HBC1.out.frozen 0
  have xC1 : w1.cell? ⟨g, 1, none⟩ = some (.int .i64 s.credit) := HBC1.out.cell 1
  have fC1 := HBC1.out.frozen 1
  have xC2 : w1.cell? ⟨g, 2, none⟩ = some (.int .i64 s.state) := HBC1.out.cell 2
  have fC2 := HBC1.out.frozen 2
  have xC3 : w1.cell? ⟨g, 3, none⟩ = some (.int .i64 s.sq) := HBC1.out.cell 3
  have fC3 := HBC1.out.frozen 3
  have xC4 : w1.cell? ⟨g, 4, none⟩ = some (.int .i64 s.peer) := HBC1.out.cell 4
  have fC4 := HBC1.out.frozen 4
  have xC5 : w1.cell? ⟨g, 5, none⟩ = some (.int .i64 s.cc) := HBC1.out.cell 5
  have fC5 := HBC1.out.frozen 5
  have xC6 : w1.cell? ⟨g, 6, none⟩ = some (.int .i64 s.ms) := HBC1.out.cell 6
  have fC6 := HBC1.out.frozen 6
  have xC7 : w1.cell? ⟨g, 7, none⟩ = some (.string s.data) := HBC1.out.cell 7
  have fC7 := HBC1.out.frozen 7
  have xR0 : w1.cell? ⟨g + 1, 0, none⟩ = some (.slice P.A1 r.sigs.length P.c1) := HBR1.out.cell 0
  have fR0 := HBR1.out.frozen 0
  have xR1 : w1.cell? ⟨g + 1, 1, none⟩ = some (.slice P.A2 r.units.length P.c2) := HBR1.out.cell 1
  have fR1 := HBR1.out.frozen 1
  have xR2 : w1.cell? ⟨g + 1, 2, none⟩ = some (.bool r.begins) := HBR1.out.cell 2
  have fR2 := HBR1.out.frozen 2
  have xR3 : w1.cell? ⟨g + 1, 3, none⟩ = some (.bool r.ends) := HBR1.out.cell 3
  have fR3 := HBR1.out.frozen 3
  have xR4 : w1.cell? ⟨g + 1, 4, none⟩ = some (.int .i64 r.ms) := HBR1.out.cell 4
  have fR4 := HBR1.out.frozen 4
  have xR5 : w1.cell? ⟨g + 1, 5, none⟩ = some (.int .i64 r.timer) := HBR1.out.cell 5
  have fR5 := HBR1.out.frozen 5
  go_wp2_with fail
  refine (rto_any (s := s) HR1.out st 1).mono ?_
  rintro e w2 ⟨P2, rfl, hr2, ht2⟩
  simp only [rcV, rrV]
  have HBC2 := Lib.hid (ht2.keptB HBC1.out HGC.out)
  have HBR2 := Lib.hid (ht2.keptB HBR1.out HGR.out)
  have HBOC2 := Lib.hid (ht2.keptB HBOC1.out HGOC.out)
  have HBOR2 := Lib.hid (ht2.keptB HBOR1.out HGOR.out)
  have HR2 := Lib.hid hr2
  have HT2 : Hid (Touch (OfAct K) w w2) := HT1.out.trans (ht2.loose HL.out) (fun _ _ e => e)
  clear xC0 fC0 xC1 fC1 xC2 fC2 xC3 fC3 xC4 fC4 xC5 fC5 xC6 fC6 xC7 fC7 xR0 fR0 xR1 fR1 xR2 fR2 xR3 fR3 xR4 fR4 xR5 fR5
  clear hr2 ht2 HBC1 HBR1 HBOC1 HBOR1 HR1 HT1
  obtain ⟨y, hy⟩ : ∃ y, Cn.toT (s, r) st 1 = y := ⟨_, rfl⟩
  have HY := Lib.hid hy
  have hq : 0 ≤ y.1.sq ∧ y.1.sq ≤ 255 := by rw [← hy]; exact HQ.out
  obtain ⟨q0, q1⟩ := hq
  rw [hy]
  rw [hy] at HR2
  clear hy
  have xC0 : w2.cell? ⟨g, 0, none⟩ = some (.int .i64 s.most) := HBC2.out.cell 0
  have fC0 := HBC2.out.frozen 0
  have xC1 : w2.cell? ⟨g, 1, none⟩ = some (.int .i64 s.credit) := HBC2.out.cell 1
  have fC1 := HBC2.out.frozen 1
  have xC2 : w2.cell? ⟨g, 2, none⟩ = some (.int .i64 s.state) := HBC2.out.cell 2
  have fC2 := HBC2.out.frozen 2
  have xC3 : w2.cell? ⟨g, 3, none⟩ = some (.int .i64 s.sq) := HBC2.out.cell 3
  have fC3 := HBC2.out.frozen 3
  have xC4 : w2.cell? ⟨g, 4, none⟩ = some (.int .i64 s.peer) := HBC2.out.cell 4
  have fC4 := HBC2.out.frozen 4
  have xC5 : w2.cell? ⟨g, 5, none⟩ = some (.int .i64 s.cc) := HBC2.out.cell 5
  have fC5 := HBC2.out.frozen 5
  have xC6 : w2.cell? ⟨g, 6, none⟩ = some (.int .i64 s.ms) := HBC2.out.cell 6
  have fC6 := HBC2.out.frozen 6
  have xC7 : w2.cell? ⟨g, 7, none⟩ = some (.string s.data) := HBC2.out.cell 7
  have fC7 := HBC2.out.frozen 7
  have xR0 : w2.cell? ⟨g + 1, 0, none⟩ = some (.slice P.A1 r.sigs.length P.c1) := HBR2.out.cell 0
  have fR0 := HBR2.out.frozen 0
  have xR1 : w2.cell? ⟨g + 1, 1, none⟩ = some (.slice P.A2 r.units.length P.c2) := HBR2.out.cell 1
  have fR1 := HBR2.out.frozen 1
  have xR2 : w2.cell? ⟨g + 1, 2, none⟩ = some (.bool r.begins) := HBR2.out.cell 2
  have fR2 := HBR2.out.frozen 2
  have xR3 : w2.cell? ⟨g + 1, 3, none⟩ = some (.bool r.ends) := HBR2.out.cell 3
  have fR3 := HBR2.out.frozen 3
  have xR4 : w2.cell? ⟨g + 1, 4, none⟩ = some (.int .i64 r.ms) := HBR2.out.cell 4
  have fR4 := HBR2.out.frozen 4
  have xR5 : w2.cell? ⟨g + 1, 5, none⟩ = some (.int .i64 r.timer) := HBR2.out.cell 5
  have fR5 := HBR2.out.frozen 5
  go_upto_region 2 with (fail)
  have htq3_1 : Touch (· = g) w2 ((((((((w2.setCell ⟨g, 0, none⟩ (.int .i64 y.1.most)).setCell ⟨g, 1, none⟩ (.int .i64 y.1.credit)).setCell ⟨g, 2, none⟩ (.int .i64 y.1.state)).setCell ⟨g, 3, none⟩ (.int .i64 y.1.sq)).setCell ⟨g, 4, none⟩ (.int .i64 y.1.peer)).setCell ⟨g, 5, none⟩ (.int .i64 y.1.cc)).setCell ⟨g, 6, none⟩ (.int .i64 y.1.ms)).setCell ⟨g, 7, none⟩ (.string y.1.data)) := (((((((((Touch.refl _ w2).st (S := (· = g)) (u := .int .i64 y.1.most) (by exact rfl)).st (S := (· = g)) (u := .int .i64 y.1.credit) (by exact rfl)).st (S := (· = g)) (u := .int .i64 y.1.state) (by exact rfl)).st (S := (· = g)) (u := .int .i64 y.1.sq) (by exact rfl)).st (S := (· = g)) (u := .int .i64 y.1.peer) (by exact rfl)).st (S := (· = g)) (u := .int .i64 y.1.cc) (by exact rfl)).st (S := (· = g)) (u := .int .i64 y.1.ms) (by exact rfl)).st (S := (· = g)) (u := .string y.1.data) (by exact rfl))
  have hbq3_1 : Blk ((((((((w2.setCell ⟨g, 0, none⟩ (.int .i64 y.1.most)).setCell ⟨g, 1, none⟩ (.int .i64 y.1.credit)).setCell ⟨g, 2, none⟩ (.int .i64 y.1.state)).setCell ⟨g, 3, none⟩ (.int .i64 y.1.sq)).setCell ⟨g, 4, none⟩ (.int .i64 y.1.peer)).setCell ⟨g, 5, none⟩ (.int .i64 y.1.cc)).setCell ⟨g, 6, none⟩ (.int .i64 y.1.ms)).setCell ⟨g, 7, none⟩ (.string y.1.data)) (g) 59 [.int .i64 y.1.most, .int .i64 y.1.credit, .int .i64 y.1.state, .int .i64 y.1.sq, .int .i64 y.1.peer, .int .i64 y.1.cc, .int .i64 y.1.ms, .string y.1.data] := ((((((((HBC2.out.set 0 (.int .i64 y.1.most)).set 1 (.int .i64 y.1.credit)).set 2 (.int .i64 y.1.state)).set 3 (.int .i64 y.1.sq)).set 4 (.int .i64 y.1.peer)).set 5 (.int .i64 y.1.cc)).set 6 (.int .i64 y.1.ms)).set 7 (.string y.1.data))
  have hoq3_1R := htq3_1.blk HBR2.out (by intro e; have e : g + 1 = g := e; omega)
  have hoq3_1OC := htq3_1.blk HBOC2.out (by intro e; have e : g + 1 + 1 = g := e; omega)
  have hoq3_1OR := htq3_1.blk HBOR2.out (by intro e; have e : g + 1 + 1 + 1 = g := e; omega)
  have hrq3_1 := HR2.out.touch htq3_1 (fun k e => by have e : k = g := e; rw [e]; exact HGC.out)
  have hTq3_1 : Touch (OfAct K) w ((((((((w2.setCell ⟨g, 0, none⟩ (.int .i64 y.1.most)).setCell ⟨g, 1, none⟩ (.int .i64 y.1.credit)).setCell ⟨g, 2, none⟩ (.int .i64 y.1.state)).setCell ⟨g, 3, none⟩ (.int .i64 y.1.sq)).setCell ⟨g, 4, none⟩ (.int .i64 y.1.peer)).setCell ⟨g, 5, none⟩ (.int .i64 y.1.cc)).setCell ⟨g, 6, none⟩ (.int .i64 y.1.ms)).setCell ⟨g, 7, none⟩ (.string y.1.data)) := HT2.out.trans htq3_1 (fun k _ e => by have e : k = g := e; intro hk; have := HLIM.out k hk; omega)
  obtain ⟨w3, q0⟩ : ∃ x : World, x = ((((((((((((((w2.setCell ⟨g, 0, none⟩ (.int .i64 y.1.most)).setCell ⟨g, 1, none⟩ (.int .i64 y.1.credit)).setCell ⟨g, 2, none⟩ (.int .i64 y.1.state)).setCell ⟨g, 3, none⟩ (.int .i64 y.1.sq)).setCell ⟨g, 4, none⟩ (.int .i64 y.1.peer)).setCell ⟨g, 5, none⟩ (.int .i64 y.1.cc)).setCell ⟨g, 6, none⟩ (.int .i64 y.1.ms)).setCell ⟨g, 7, none⟩ (.string y.1.data)).setCell ⟨g + 1, 0, none⟩ (.slice P2.A1 y.2.sigs.length P2.c1)).setCell ⟨g + 1, 1, none⟩ (.slice P2.A2 y.2.units.length P2.c2)).setCell ⟨g + 1, 2, none⟩ (.bool y.2.begins)).setCell ⟨g + 1, 3, none⟩ (.bool y.2.ends)).setCell ⟨g + 1, 4, none⟩ (.int .i64 y.2.ms)).setCell ⟨g + 1, 5, none⟩ (.int .i64 y.2.timer)) := ⟨_, rfl⟩
  have q_w3 := Lib.hid q0
  clear q0
  have htq3_2 : Touch (· = g + 1) ((((((((w2.setCell ⟨g, 0, none⟩ (.int .i64 y.1.most)).setCell ⟨g, 1, none⟩ (.int .i64 y.1.credit)).setCell ⟨g, 2, none⟩ (.int .i64 y.1.state)).setCell ⟨g, 3, none⟩ (.int .i64 y.1.sq)).setCell ⟨g, 4, none⟩ (.int .i64 y.1.peer)).setCell ⟨g, 5, none⟩ (.int .i64 y.1.cc)).setCell ⟨g, 6, none⟩ (.int .i64 y.1.ms)).setCell ⟨g, 7, none⟩ (.string y.1.data)) w3 := by rw [q_w3.out]; exact (((((((Touch.refl _ ((((((((w2.setCell ⟨g, 0, none⟩ (.int .i64 y.1.most)).setCell ⟨g, 1, none⟩ (.int .i64 y.1.credit)).setCell ⟨g, 2, none⟩ (.int .i64 y.1.state)).setCell ⟨g, 3, none⟩ (.int .i64 y.1.sq)).setCell ⟨g, 4, none⟩ (.int .i64 y.1.peer)).setCell ⟨g, 5, none⟩ (.int .i64 y.1.cc)).setCell ⟨g, 6, none⟩ (.int .i64 y.1.ms)).setCell ⟨g, 7, none⟩ (.string y.1.data))).st (S := (· = g + 1)) (u := .slice P2.A1 y.2.sigs.length P2.c1) (by exact rfl)).st (S := (· = g + 1)) (u := .slice P2.A2 y.2.units.length P2.c2) (by exact rfl)).st (S := (· = g + 1)) (u := .bool y.2.begins) (by exact rfl)).st (S := (· = g + 1)) (u := .bool y.2.ends) (by exact rfl)).st (S := (· = g + 1)) (u := .int .i64 y.2.ms) (by exact rfl)).st (S := (· = g + 1)) (u := .int .i64 y.2.timer) (by exact rfl))
  have hbq3_2 : Blk w3 (g + 1) 90 [.slice P2.A1 y.2.sigs.length P2.c1, .slice P2.A2 y.2.units.length P2.c2, .bool y.2.begins, .bool y.2.ends, .int .i64 y.2.ms, .int .i64 y.2.timer] := by rw [q_w3.out]; exact ((((((hoq3_1R.set 0 (.slice P2.A1 y.2.sigs.length P2.c1)).set 1 (.slice P2.A2 y.2.units.length P2.c2)).set 2 (.bool y.2.begins)).set 3 (.bool y.2.ends)).set 4 (.int .i64 y.2.ms)).set 5 (.int .i64 y.2.timer))
  have hoq3_2C := htq3_2.blk hbq3_1 (by intro e; have e : g = g + 1 := e; omega)
  have hoq3_2OC := htq3_2.blk hoq3_1OC (by intro e; have e : g + 1 + 1 = g + 1 := e; omega)
  have hoq3_2OR := htq3_2.blk hoq3_1OR (by intro e; have e : g + 1 + 1 + 1 = g + 1 := e; omega)
  have hrq3_2 := hrq3_1.touch htq3_2 (fun k e => by have e : k = g + 1 := e; rw [e]; exact HGR.out)
  have hTq3_2 : Touch (OfAct K) w w3 := hTq3_1.trans htq3_2 (fun k _ e => by have e : k = g + 1 := e; intro hk; have := HLIM.out k hk; omega)
  clear xC0 fC0 xC1 fC1 xC2 fC2 xC3 fC3 xC4 fC4 xC5 fC5 xC6 fC6 xC7 fC7 xR0 fR0 xR1 fR1 xR2 fR2 xR3 fR3 xR4 fR4 xR5 fR5
  have HBC3 : Hid (Blk w3 (g) 59 [.int .i64 y.1.most, .int .i64 y.1.credit, .int .i64 y.1.state, .int .i64 y.1.sq, .int .i64 y.1.peer, .int .i64 y.1.cc, .int .i64 y.1.ms, .string y.1.data]) := hoq3_2C
  have HBR3 : Hid (Blk w3 (g + 1) 90 [.slice P2.A1 y.2.sigs.length P2.c1, .slice P2.A2 y.2.units.length P2.c2, .bool y.2.begins, .bool y.2.ends, .int .i64 y.2.ms, .int .i64 y.2.timer]) := hbq3_2
  have HBOC3 : Hid (Blk w3 (g + 1 + 1) 59 [.int .i64 0, .int .i64 0, .int .i64 0, .int .i64 0, .int .i64 0, .int .i64 0, .int .i64 0, .string { data := #[] }]) := hoq3_2OC
  have HBOR3 : Hid (Blk w3 (g + 1 + 1 + 1) 90 [.slice none 0 0, .slice none 0 0, .bool false, .bool false, .int .i64 0, .int .i64 0]) := hoq3_2OR
  have HR3 := Lib.hid hrq3_2
  have HT3 : Hid (Touch (OfAct K) w w3) := hTq3_2
  clear HBC2 HBR2 HBOC2 HBOR2 HR2 HT2 htq3_1 hbq3_1 hrq3_1 hTq3_1 hoq3_1R hoq3_1OC hoq3_1OR htq3_2 hbq3_2 hrq3_2 hTq3_2 hoq3_2C hoq3_2OC hoq3_2OR
  rw [← q_w3.out]
  clear q_w3
  have xC0 : w3.cell? ⟨g, 0, none⟩ = some (.int .i64 y.1.most) := HBC3.out.cell 0
  have fC0 := HBC3.out.frozen 0
  have xC1 : w3.cell? ⟨g, 1, none⟩ = some (.int .i64 y.1.credit) := HBC3.out.cell 1
  have fC1 := HBC3.out.frozen 1
  have xC2 : w3.cell? ⟨g, 2, none⟩ = some (.int .i64 y.1.state) := HBC3.out.cell 2
  have fC2 := HBC3.out.frozen 2
  have xC3 : w3.cell? ⟨g, 3, none⟩ = some (.int .i64 y.1.sq) := HBC3.out.cell 3
  have fC3 := HBC3.out.frozen 3
  have xC4 : w3.cell? ⟨g, 4, none⟩ = some (.int .i64 y.1.peer) := HBC3.out.cell 4
  have fC4 := HBC3.out.frozen 4
  have xC5 : w3.cell? ⟨g, 5, none⟩ = some (.int .i64 y.1.cc) := HBC3.out.cell 5
  have fC5 := HBC3.out.frozen 5
  have xC6 : w3.cell? ⟨g, 6, none⟩ = some (.int .i64 y.1.ms) := HBC3.out.cell 6
  have fC6 := HBC3.out.frozen 6
  have xC7 : w3.cell? ⟨g, 7, none⟩ = some (.string y.1.data) := HBC3.out.cell 7
  have fC7 := HBC3.out.frozen 7
  have xR0 : w3.cell? ⟨g + 1, 0, none⟩ = some (.slice P2.A1 y.2.sigs.length P2.c1) := HBR3.out.cell 0
  have xR1 : w3.cell? ⟨g + 1, 1, none⟩ = some (.slice P2.A2 y.2.units.length P2.c2) := HBR3.out.cell 1
  have xR2 : w3.cell? ⟨g + 1, 2, none⟩ = some (.bool y.2.begins) := HBR3.out.cell 2
  have xR3 : w3.cell? ⟨g + 1, 3, none⟩ = some (.bool y.2.ends) := HBR3.out.cell 3
  have xR4 : w3.cell? ⟨g + 1, 4, none⟩ = some (.int .i64 y.2.ms) := HBR3.out.cell 4
  have xR5 : w3.cell? ⟨g + 1, 5, none⟩ = some (.int .i64 y.2.timer) := HBR3.out.cell 5
  go_upto_region 5 with (fail)
  have htq4_1 : Touch (· = g) w3 (((w3.setCell ⟨g, 3, none⟩ (.int .i64 ((y.1.sq + 1) % 256))).setCell ⟨g, 5, none⟩ (.int .i64 1)).setCell ⟨g, 7, none⟩ (.string d)) := ((((Touch.refl _ w3).st (S := (· = g)) (u := .int .i64 ((y.1.sq + 1) % 256)) (by exact rfl)).st (S := (· = g)) (u := .int .i64 1) (by exact rfl)).st (S := (· = g)) (u := .string d) (by exact rfl))
  have hbq4_1 : Blk (((w3.setCell ⟨g, 3, none⟩ (.int .i64 ((y.1.sq + 1) % 256))).setCell ⟨g, 5, none⟩ (.int .i64 1)).setCell ⟨g, 7, none⟩ (.string d)) (g) 59 [.int .i64 y.1.most, .int .i64 y.1.credit, .int .i64 y.1.state, .int .i64 ((y.1.sq + 1) % 256), .int .i64 y.1.peer, .int .i64 1, .int .i64 y.1.ms, .string d] := (((HBC3.out.set 3 (.int .i64 ((y.1.sq + 1) % 256))).set 5 (.int .i64 1)).set 7 (.string d))
  have hoq4_1R := htq4_1.blk HBR3.out (by intro e; have e : g + 1 = g := e; omega)
  have hoq4_1OC := htq4_1.blk HBOC3.out (by intro e; have e : g + 1 + 1 = g := e; omega)
  have hoq4_1OR := htq4_1.blk HBOR3.out (by intro e; have e : g + 1 + 1 + 1 = g := e; omega)
  have hrq4_1 := HR3.out.touch htq4_1 (fun k e => by have e : k = g := e; rw [e]; exact HGC.out)
  have hTq4_1 : Touch (OfAct K) w (((w3.setCell ⟨g, 3, none⟩ (.int .i64 ((y.1.sq + 1) % 256))).setCell ⟨g, 5, none⟩ (.int .i64 1)).setCell ⟨g, 7, none⟩ (.string d)) := HT3.out.trans htq4_1 (fun k _ e => by have e : k = g := e; intro hk; have := HLIM.out k hk; omega)
  clear xC0 fC0 xC1 fC1 xC2 fC2 xC3 fC3 xC4 fC4 xC5 fC5 xC6 fC6 xC7 fC7 xR0 xR1 xR2 xR3 xR4 xR5
  have HBC4 : Hid (Blk (((w3.setCell ⟨g, 3, none⟩ (.int .i64 ((y.1.sq + 1) % 256))).setCell ⟨g, 5, none⟩ (.int .i64 1)).setCell ⟨g, 7, none⟩ (.string d)) (g) 59 [.int .i64 y.1.most, .int .i64 y.1.credit, .int .i64 y.1.state, .int .i64 ((y.1.sq + 1) % 256), .int .i64 y.1.peer, .int .i64 1, .int .i64 y.1.ms, .string d]) := hbq4_1
  have HBR4 : Hid (Blk (((w3.setCell ⟨g, 3, none⟩ (.int .i64 ((y.1.sq + 1) % 256))).setCell ⟨g, 5, none⟩ (.int .i64 1)).setCell ⟨g, 7, none⟩ (.string d)) (g + 1) 90 [.slice P2.A1 y.2.sigs.length P2.c1, .slice P2.A2 y.2.units.length P2.c2, .bool y.2.begins, .bool y.2.ends, .int .i64 y.2.ms, .int .i64 y.2.timer]) := hoq4_1R
  have HBOC4 : Hid (Blk (((w3.setCell ⟨g, 3, none⟩ (.int .i64 ((y.1.sq + 1) % 256))).setCell ⟨g, 5, none⟩ (.int .i64 1)).setCell ⟨g, 7, none⟩ (.string d)) (g + 1 + 1) 59 [.int .i64 0, .int .i64 0, .int .i64 0, .int .i64 0, .int .i64 0, .int .i64 0, .int .i64 0, .string { data := #[] }]) := hoq4_1OC
  have HBOR4 : Hid (Blk (((w3.setCell ⟨g, 3, none⟩ (.int .i64 ((y.1.sq + 1) % 256))).setCell ⟨g, 5, none⟩ (.int .i64 1)).setCell ⟨g, 7, none⟩ (.string d)) (g + 1 + 1 + 1) 90 [.slice none 0 0, .slice none 0 0, .bool false, .bool false, .int .i64 0, .int .i64 0]) := hoq4_1OR
  have HR4 := Lib.hid hrq4_1
  have HT4 : Hid (Touch (OfAct K) w (((w3.setCell ⟨g, 3, none⟩ (.int .i64 ((y.1.sq + 1) % 256))).setCell ⟨g, 5, none⟩ (.int .i64 1)).setCell ⟨g, 7, none⟩ (.string d))) := hTq4_1
  clear HBC3 HBR3 HBOC3 HBOR3 HR3 HT3 htq4_1 hbq4_1 hrq4_1 hTq4_1 hoq4_1R hoq4_1OC hoq4_1OR
  generalize (((w3.setCell ⟨g, 3, none⟩ (.int .i64 ((y.1.sq + 1) % 256))).setCell ⟨g, 5, none⟩ (.int .i64 1)).setCell ⟨g, 7, none⟩ (.string d)) = w4 at *
  have xC0 : w4.cell? ⟨g, 0, none⟩ = some (.int .i64 y.1.most) := HBC4.out.cell 0
  have xC1 : w4.cell? ⟨g, 1, none⟩ = some (.int .i64 y.1.credit) := HBC4.out.cell 1
  have xC2 : w4.cell? ⟨g, 2, none⟩ = some (.int .i64 y.1.state) := HBC4.out.cell 2
  have xC3 : w4.cell? ⟨g, 3, none⟩ = some (.int .i64 ((y.1.sq + 1) % 256)) := HBC4.out.cell 3
  have xC4 : w4.cell? ⟨g, 4, none⟩ = some (.int .i64 y.1.peer) := HBC4.out.cell 4
  have xC5 : w4.cell? ⟨g, 5, none⟩ = some (.int .i64 1) := HBC4.out.cell 5
  have xC6 : w4.cell? ⟨g, 6, none⟩ = some (.int .i64 y.1.ms) := HBC4.out.cell 6
  have xC7 : w4.cell? ⟨g, 7, none⟩ = some (.string d) := HBC4.out.cell 7
  have xR0 : w4.cell? ⟨g + 1, 0, none⟩ = some (.slice P2.A1 y.2.sigs.length P2.c1) := HBR4.out.cell 0
  have xR1 : w4.cell? ⟨g + 1, 1, none⟩ = some (.slice P2.A2 y.2.units.length P2.c2) := HBR4.out.cell 1
  have xR2 : w4.cell? ⟨g + 1, 2, none⟩ = some (.bool y.2.begins) := HBR4.out.cell 2
  have xR3 : w4.cell? ⟨g + 1, 3, none⟩ = some (.bool y.2.ends) := HBR4.out.cell 3
  have xR4 : w4.cell? ⟨g + 1, 4, none⟩ = some (.int .i64 y.2.ms) := HBR4.out.cell 4
  have xR5 : w4.cell? ⟨g + 1, 5, none⟩ = some (.int .i64 y.2.timer) := HBR4.out.cell 5
  have xOC0 : w4.cell? ⟨g + 1 + 1, 0, none⟩ = some (.int .i64 0) := HBOC4.out.cell 0
  have fOC0 := HBOC4.out.frozen 0
  have xOC1 : w4.cell? ⟨g + 1 + 1, 1, none⟩ = some (.int .i64 0) := HBOC4.out.cell 1
  have fOC1 := HBOC4.out.frozen 1
  have xOC2 : w4.cell? ⟨g + 1 + 1, 2, none⟩ = some (.int .i64 0) := HBOC4.out.cell 2
  have fOC2 := HBOC4.out.frozen 2
  have xOC3 : w4.cell? ⟨g + 1 + 1, 3, none⟩ = some (.int .i64 0) := HBOC4.out.cell 3
  have fOC3 := HBOC4.out.frozen 3
  have xOC4 : w4.cell? ⟨g + 1 + 1, 4, none⟩ = some (.int .i64 0) := HBOC4.out.cell 4
  have fOC4 := HBOC4.out.frozen 4
  have xOC5 : w4.cell? ⟨g + 1 + 1, 5, none⟩ = some (.int .i64 0) := HBOC4.out.cell 5
  have fOC5 := HBOC4.out.frozen 5
  have xOC6 : w4.cell? ⟨g + 1 + 1, 6, none⟩ = some (.int .i64 0) := HBOC4.out.cell 6
  have fOC6 := HBOC4.out.frozen 6
  have xOC7 : w4.cell? ⟨g + 1 + 1, 7, none⟩ = some (.string { data := #[] }) := HBOC4.out.cell 7
  have fOC7 := HBOC4.out.frozen 7
  have xOR0 : w4.cell? ⟨g + 1 + 1 + 1, 0, none⟩ = some (.slice none 0 0) := HBOR4.out.cell 0
  have fOR0 := HBOR4.out.frozen 0
  have xOR1 : w4.cell? ⟨g + 1 + 1 + 1, 1, none⟩ = some (.slice none 0 0) := HBOR4.out.cell 1
  have fOR1 := HBOR4.out.frozen 1
  have xOR2 : w4.cell? ⟨g + 1 + 1 + 1, 2, none⟩ = some (.bool false) := HBOR4.out.cell 2
  have fOR2 := HBOR4.out.frozen 2
  have xOR3 : w4.cell? ⟨g + 1 + 1 + 1, 3, none⟩ = some (.bool false) := HBOR4.out.cell 3
  have fOR3 := HBOR4.out.frozen 3
  have xOR4 : w4.cell? ⟨g + 1 + 1 + 1, 4, none⟩ = some (.int .i64 0) := HBOR4.out.cell 4
  have fOR4 := HBOR4.out.frozen 4
  have xOR5 : w4.cell? ⟨g + 1 + 1 + 1, 5, none⟩ = some (.int .i64 0) := HBOR4.out.cell 5
  have fOR5 := HBOR4.out.frozen 5
  go_region_law (first
    | (go_simp
       go_at_call 67
       refine (rout_any (w := w4.drew) (s := { y.1 with sq := (y.1.sq + 1) % 256, cc := 1, data := d }) (HR4.out.old (Touch.refl _ w4).drew) (by omega) kind ((y.1.sq + 1) % 256) false d).mono ?_
       rintro e w5 ⟨P3, rfl, hr5, ht5⟩
       simp only [rcV, rrV]
       have HBC5 := Lib.hid (ht5.keptB (Blk.drew HBC4.out) HGC.out)
       have HBR5 := Lib.hid (ht5.keptB (Blk.drew HBR4.out) HGR.out)
       have HBOC5 := Lib.hid (ht5.keptB (Blk.drew HBOC4.out) HGOC.out)
       have HBOR5 := Lib.hid (ht5.keptB (Blk.drew HBOR4.out) HGOR.out)
       have HR5 := Lib.hid hr5
       have HT5 : Hid (Touch (OfAct K) w w5) := HT4.out.drew.trans (ht5.loose HL.out) (fun _ _ e => e)
       clear hr5 ht5
       have yC0 : w5.cell? ⟨g, 0, none⟩ = some (.int .i64 y.1.most) := HBC5.out.cell 0
       have hC0 := HBC5.out.frozen 0
       have yC1 : w5.cell? ⟨g, 1, none⟩ = some (.int .i64 y.1.credit) := HBC5.out.cell 1
       have hC1 := HBC5.out.frozen 1
       have yC2 : w5.cell? ⟨g, 2, none⟩ = some (.int .i64 y.1.state) := HBC5.out.cell 2
       have hC2 := HBC5.out.frozen 2
       have yC3 : w5.cell? ⟨g, 3, none⟩ = some (.int .i64 ((y.1.sq + 1) % 256)) := HBC5.out.cell 3
       have hC3 := HBC5.out.frozen 3
       have yC4 : w5.cell? ⟨g, 4, none⟩ = some (.int .i64 y.1.peer) := HBC5.out.cell 4
       have hC4 := HBC5.out.frozen 4
       have yC5 : w5.cell? ⟨g, 5, none⟩ = some (.int .i64 1) := HBC5.out.cell 5
       have hC5 := HBC5.out.frozen 5
       have yC6 : w5.cell? ⟨g, 6, none⟩ = some (.int .i64 y.1.ms) := HBC5.out.cell 6
       have hC6 := HBC5.out.frozen 6
       have yC7 : w5.cell? ⟨g, 7, none⟩ = some (.string d) := HBC5.out.cell 7
       have hC7 := HBC5.out.frozen 7
       have yR0 : w5.cell? ⟨g + 1, 0, none⟩ = some (.slice P2.A1 y.2.sigs.length P2.c1) := HBR5.out.cell 0
       have hR0 := HBR5.out.frozen 0
       have yR1 : w5.cell? ⟨g + 1, 1, none⟩ = some (.slice P2.A2 y.2.units.length P2.c2) := HBR5.out.cell 1
       have hR1 := HBR5.out.frozen 1
       have yR2 : w5.cell? ⟨g + 1, 2, none⟩ = some (.bool y.2.begins) := HBR5.out.cell 2
       have hR2 := HBR5.out.frozen 2
       have yR3 : w5.cell? ⟨g + 1, 3, none⟩ = some (.bool y.2.ends) := HBR5.out.cell 3
       have hR3 := HBR5.out.frozen 3
       have yR4 : w5.cell? ⟨g + 1, 4, none⟩ = some (.int .i64 y.2.ms) := HBR5.out.cell 4
       have hR4 := HBR5.out.frozen 4
       have yR5 : w5.cell? ⟨g + 1, 5, none⟩ = some (.int .i64 y.2.timer) := HBR5.out.cell 5
       have hR5 := HBR5.out.frozen 5
       have yOC0 : w5.cell? ⟨g + 1 + 1, 0, none⟩ = some (.int .i64 0) := HBOC5.out.cell 0
       have hOC0 := HBOC5.out.frozen 0
       have yOC1 : w5.cell? ⟨g + 1 + 1, 1, none⟩ = some (.int .i64 0) := HBOC5.out.cell 1
       have hOC1 := HBOC5.out.frozen 1
       have yOC2 : w5.cell? ⟨g + 1 + 1, 2, none⟩ = some (.int .i64 0) := HBOC5.out.cell 2
       have hOC2 := HBOC5.out.frozen 2
       have yOC3 : w5.cell? ⟨g + 1 + 1, 3, none⟩ = some (.int .i64 0) := HBOC5.out.cell 3
       have hOC3 := HBOC5.out.frozen 3
       have yOC4 : w5.cell? ⟨g + 1 + 1, 4, none⟩ = some (.int .i64 0) := HBOC5.out.cell 4
       have hOC4 := HBOC5.out.frozen 4
       have yOC5 : w5.cell? ⟨g + 1 + 1, 5, none⟩ = some (.int .i64 0) := HBOC5.out.cell 5
       have hOC5 := HBOC5.out.frozen 5
       have yOC6 : w5.cell? ⟨g + 1 + 1, 6, none⟩ = some (.int .i64 0) := HBOC5.out.cell 6
       have hOC6 := HBOC5.out.frozen 6
       have yOC7 : w5.cell? ⟨g + 1 + 1, 7, none⟩ = some (.string { data := #[] }) := HBOC5.out.cell 7
       have hOC7 := HBOC5.out.frozen 7
       have yOR0 : w5.cell? ⟨g + 1 + 1 + 1, 0, none⟩ = some (.slice none 0 0) := HBOR5.out.cell 0
       have hOR0 := HBOR5.out.frozen 0
       have yOR1 : w5.cell? ⟨g + 1 + 1 + 1, 1, none⟩ = some (.slice none 0 0) := HBOR5.out.cell 1
       have hOR1 := HBOR5.out.frozen 1
       have yOR2 : w5.cell? ⟨g + 1 + 1 + 1, 2, none⟩ = some (.bool false) := HBOR5.out.cell 2
       have hOR2 := HBOR5.out.frozen 2
       have yOR3 : w5.cell? ⟨g + 1 + 1 + 1, 3, none⟩ = some (.bool false) := HBOR5.out.cell 3
       have hOR3 := HBOR5.out.frozen 3
       have yOR4 : w5.cell? ⟨g + 1 + 1 + 1, 4, none⟩ = some (.int .i64 0) := HBOR5.out.cell 4
       have hOR4 := HBOR5.out.frozen 4
       have yOR5 : w5.cell? ⟨g + 1 + 1 + 1, 5, none⟩ = some (.int .i64 0) := HBOR5.out.cell 5
       have hOR5 := HBOR5.out.frozen 5))
  all_goals
    have HBE : Hid (Cn.begin_ (s, r) st d = ({ y.1 with sq := (y.1.sq + 1) % 256, cc := 1, data := d }, (Cn.out ({ y.1 with sq := (y.1.sq + 1) % 256, cc := 1, data := d }, y.2) (Cn.unit_ kind ((y.1.sq + 1) % 256) false d)).2)) := by unfold Hid; rw [← HY.out, ← HK.out]; rfl
    generalize hz : (Cn.out ({ y.1 with sq := (y.1.sq + 1) % 256, cc := 1, data := d }, y.2) (Cn.unit_ kind ((y.1.sq + 1) % 256) false d)).2 = z at *
    clear hz
    have htq6_1 : Touch (· = g + 1 + 1) w5 ((((((((w5.setCell ⟨g + 1 + 1, 0, none⟩ (.int .i64 y.1.most)).setCell ⟨g + 1 + 1, 1, none⟩ (.int .i64 y.1.credit)).setCell ⟨g + 1 + 1, 2, none⟩ (.int .i64 y.1.state)).setCell ⟨g + 1 + 1, 3, none⟩ (.int .i64 ((y.1.sq + 1) % 256))).setCell ⟨g + 1 + 1, 4, none⟩ (.int .i64 y.1.peer)).setCell ⟨g + 1 + 1, 5, none⟩ (.int .i64 1)).setCell ⟨g + 1 + 1, 6, none⟩ (.int .i64 y.1.ms)).setCell ⟨g + 1 + 1, 7, none⟩ (.string d)) := (((((((((Touch.refl _ w5).st (S := (· = g + 1 + 1)) (u := .int .i64 y.1.most) (by exact rfl)).st (S := (· = g + 1 + 1)) (u := .int .i64 y.1.credit) (by exact rfl)).st (S := (· = g + 1 + 1)) (u := .int .i64 y.1.state) (by exact rfl)).st (S := (· = g + 1 + 1)) (u := .int .i64 ((y.1.sq + 1) % 256)) (by exact rfl)).st (S := (· = g + 1 + 1)) (u := .int .i64 y.1.peer) (by exact rfl)).st (S := (· = g + 1 + 1)) (u := .int .i64 1) (by exact rfl)).st (S := (· = g + 1 + 1)) (u := .int .i64 y.1.ms) (by exact rfl)).st (S := (· = g + 1 + 1)) (u := .string d) (by exact rfl))
    have hbq6_1 : Blk ((((((((w5.setCell ⟨g + 1 + 1, 0, none⟩ (.int .i64 y.1.most)).setCell ⟨g + 1 + 1, 1, none⟩ (.int .i64 y.1.credit)).setCell ⟨g + 1 + 1, 2, none⟩ (.int .i64 y.1.state)).setCell ⟨g + 1 + 1, 3, none⟩ (.int .i64 ((y.1.sq + 1) % 256))).setCell ⟨g + 1 + 1, 4, none⟩ (.int .i64 y.1.peer)).setCell ⟨g + 1 + 1, 5, none⟩ (.int .i64 1)).setCell ⟨g + 1 + 1, 6, none⟩ (.int .i64 y.1.ms)).setCell ⟨g + 1 + 1, 7, none⟩ (.string d)) (g + 1 + 1) 59 [.int .i64 y.1.most, .int .i64 y.1.credit, .int .i64 y.1.state, .int .i64 ((y.1.sq + 1) % 256), .int .i64 y.1.peer, .int .i64 1, .int .i64 y.1.ms, .string d] := ((((((((HBOC5.out.set 0 (.int .i64 y.1.most)).set 1 (.int .i64 y.1.credit)).set 2 (.int .i64 y.1.state)).set 3 (.int .i64 ((y.1.sq + 1) % 256))).set 4 (.int .i64 y.1.peer)).set 5 (.int .i64 1)).set 6 (.int .i64 y.1.ms)).set 7 (.string d))
    have hoq6_1C := htq6_1.blk HBC5.out (by intro e; have e : g = g + 1 + 1 := e; omega)
    have hoq6_1R := htq6_1.blk HBR5.out (by intro e; have e : g + 1 = g + 1 + 1 := e; omega)
    have hoq6_1OR := htq6_1.blk HBOR5.out (by intro e; have e : g + 1 + 1 + 1 = g + 1 + 1 := e; omega)
    have hrq6_1 := HR5.out.touch htq6_1 (fun k e => by have e : k = g + 1 + 1 := e; rw [e]; exact HGOC.out)
    have hTq6_1 : Touch (OfAct K) w ((((((((w5.setCell ⟨g + 1 + 1, 0, none⟩ (.int .i64 y.1.most)).setCell ⟨g + 1 + 1, 1, none⟩ (.int .i64 y.1.credit)).setCell ⟨g + 1 + 1, 2, none⟩ (.int .i64 y.1.state)).setCell ⟨g + 1 + 1, 3, none⟩ (.int .i64 ((y.1.sq + 1) % 256))).setCell ⟨g + 1 + 1, 4, none⟩ (.int .i64 y.1.peer)).setCell ⟨g + 1 + 1, 5, none⟩ (.int .i64 1)).setCell ⟨g + 1 + 1, 6, none⟩ (.int .i64 y.1.ms)).setCell ⟨g + 1 + 1, 7, none⟩ (.string d)) := HT5.out.trans htq6_1 (fun k _ e => by have e : k = g + 1 + 1 := e; intro hk; have := HLIM.out k hk; omega)
    obtain ⟨w6, q0⟩ : ∃ x : World, x = ((((((((((((((w5.setCell ⟨g + 1 + 1, 0, none⟩ (.int .i64 y.1.most)).setCell ⟨g + 1 + 1, 1, none⟩ (.int .i64 y.1.credit)).setCell ⟨g + 1 + 1, 2, none⟩ (.int .i64 y.1.state)).setCell ⟨g + 1 + 1, 3, none⟩ (.int .i64 ((y.1.sq + 1) % 256))).setCell ⟨g + 1 + 1, 4, none⟩ (.int .i64 y.1.peer)).setCell ⟨g + 1 + 1, 5, none⟩ (.int .i64 1)).setCell ⟨g + 1 + 1, 6, none⟩ (.int .i64 y.1.ms)).setCell ⟨g + 1 + 1, 7, none⟩ (.string d)).setCell ⟨g + 1 + 1 + 1, 0, none⟩ (.slice P3.A1 z.sigs.length P3.c1)).setCell ⟨g + 1 + 1 + 1, 1, none⟩ (.slice P3.A2 z.units.length P3.c2)).setCell ⟨g + 1 + 1 + 1, 2, none⟩ (.bool z.begins)).setCell ⟨g + 1 + 1 + 1, 3, none⟩ (.bool z.ends)).setCell ⟨g + 1 + 1 + 1, 4, none⟩ (.int .i64 z.ms)).setCell ⟨g + 1 + 1 + 1, 5, none⟩ (.int .i64 z.timer)) := ⟨_, rfl⟩
    have q_w6 := Lib.hid q0
    clear q0
    have htq6_2 : Touch (· = g + 1 + 1 + 1) ((((((((w5.setCell ⟨g + 1 + 1, 0, none⟩ (.int .i64 y.1.most)).setCell ⟨g + 1 + 1, 1, none⟩ (.int .i64 y.1.credit)).setCell ⟨g + 1 + 1, 2, none⟩ (.int .i64 y.1.state)).setCell ⟨g + 1 + 1, 3, none⟩ (.int .i64 ((y.1.sq + 1) % 256))).setCell ⟨g + 1 + 1, 4, none⟩ (.int .i64 y.1.peer)).setCell ⟨g + 1 + 1, 5, none⟩ (.int .i64 1)).setCell ⟨g + 1 + 1, 6, none⟩ (.int .i64 y.1.ms)).setCell ⟨g + 1 + 1, 7, none⟩ (.string d)) w6 := by rw [q_w6.out]; exact (((((((Touch.refl _ ((((((((w5.setCell ⟨g + 1 + 1, 0, none⟩ (.int .i64 y.1.most)).setCell ⟨g + 1 + 1, 1, none⟩ (.int .i64 y.1.credit)).setCell ⟨g + 1 + 1, 2, none⟩ (.int .i64 y.1.state)).setCell ⟨g + 1 + 1, 3, none⟩ (.int .i64 ((y.1.sq + 1) % 256))).setCell ⟨g + 1 + 1, 4, none⟩ (.int .i64 y.1.peer)).setCell ⟨g + 1 + 1, 5, none⟩ (.int .i64 1)).setCell ⟨g + 1 + 1, 6, none⟩ (.int .i64 y.1.ms)).setCell ⟨g + 1 + 1, 7, none⟩ (.string d))).st (S := (· = g + 1 + 1 + 1)) (u := .slice P3.A1 z.sigs.length P3.c1) (by exact rfl)).st (S := (· = g + 1 + 1 + 1)) (u := .slice P3.A2 z.units.length P3.c2) (by exact rfl)).st (S := (· = g + 1 + 1 + 1)) (u := .bool z.begins) (by exact rfl)).st (S := (· = g + 1 + 1 + 1)) (u := .bool z.ends) (by exact rfl)).st (S := (· = g + 1 + 1 + 1)) (u := .int .i64 z.ms) (by exact rfl)).st (S := (· = g + 1 + 1 + 1)) (u := .int .i64 z.timer) (by exact rfl))
    have hbq6_2 : Blk w6 (g + 1 + 1 + 1) 90 [.slice P3.A1 z.sigs.length P3.c1, .slice P3.A2 z.units.length P3.c2, .bool z.begins, .bool z.ends, .int .i64 z.ms, .int .i64 z.timer] := by rw [q_w6.out]; exact ((((((hoq6_1OR.set 0 (.slice P3.A1 z.sigs.length P3.c1)).set 1 (.slice P3.A2 z.units.length P3.c2)).set 2 (.bool z.begins)).set 3 (.bool z.ends)).set 4 (.int .i64 z.ms)).set 5 (.int .i64 z.timer))
    have hoq6_2C := htq6_2.blk hoq6_1C (by intro e; have e : g = g + 1 + 1 + 1 := e; omega)
    have hoq6_2R := htq6_2.blk hoq6_1R (by intro e; have e : g + 1 = g + 1 + 1 + 1 := e; omega)
    have hoq6_2OC := htq6_2.blk hbq6_1 (by intro e; have e : g + 1 + 1 = g + 1 + 1 + 1 := e; omega)
    have hrq6_2 := hrq6_1.touch htq6_2 (fun k e => by have e : k = g + 1 + 1 + 1 := e; rw [e]; exact HGOR.out)
    have hTq6_2 : Touch (OfAct K) w w6 := hTq6_1.trans htq6_2 (fun k _ e => by have e : k = g + 1 + 1 + 1 := e; intro hk; have := HLIM.out k hk; omega)
    clear xC0 xC1 xC2 xC3 xC4 xC5 xC6 xC7 xR0 xR1 xR2 xR3 xR4 xR5 xOC0 fOC0 xOC1 fOC1 xOC2 fOC2 xOC3 fOC3 xOC4 fOC4 xOC5 fOC5 xOC6 fOC6 xOC7 fOC7 xOR0 fOR0 xOR1 fOR1 xOR2 fOR2 xOR3 fOR3 xOR4 fOR4 xOR5 fOR5 yC0 hC0 yC1 hC1 yC2 hC2 yC3 hC3 yC4 hC4 yC5 hC5 yC6 hC6 yC7 hC7 yR0 hR0 yR1 hR1 yR2 hR2 yR3 hR3 yR4 hR4 yR5 hR5 yOC0 hOC0 yOC1 hOC1 yOC2 hOC2 yOC3 hOC3 yOC4 hOC4 yOC5 hOC5 yOC6 hOC6 yOC7 hOC7 yOR0 hOR0 yOR1 hOR1 yOR2 hOR2 yOR3 hOR3 yOR4 hOR4 yOR5 hOR5
    have HBC6 : Hid (Blk w6 (g) 59 [.int .i64 y.1.most, .int .i64 y.1.credit, .int .i64 y.1.state, .int .i64 ((y.1.sq + 1) % 256), .int .i64 y.1.peer, .int .i64 1, .int .i64 y.1.ms, .string d]) := hoq6_2C
    have HBR6 : Hid (Blk w6 (g + 1) 90 [.slice P2.A1 y.2.sigs.length P2.c1, .slice P2.A2 y.2.units.length P2.c2, .bool y.2.begins, .bool y.2.ends, .int .i64 y.2.ms, .int .i64 y.2.timer]) := hoq6_2R
    have HBOC6 : Hid (Blk w6 (g + 1 + 1) 59 [.int .i64 y.1.most, .int .i64 y.1.credit, .int .i64 y.1.state, .int .i64 ((y.1.sq + 1) % 256), .int .i64 y.1.peer, .int .i64 1, .int .i64 y.1.ms, .string d]) := hoq6_2OC
    have HBOR6 : Hid (Blk w6 (g + 1 + 1 + 1) 90 [.slice P3.A1 z.sigs.length P3.c1, .slice P3.A2 z.units.length P3.c2, .bool z.begins, .bool z.ends, .int .i64 z.ms, .int .i64 z.timer]) := hbq6_2
    have HR6 := Lib.hid hrq6_2
    have HT6 : Hid (Touch (OfAct K) w w6) := hTq6_2
    clear HBC5 HBR5 HBOC5 HBOR5 HR5 HT5 htq6_1 hbq6_1 hrq6_1 hTq6_1 hoq6_1C hoq6_1R hoq6_1OR htq6_2 hbq6_2 hrq6_2 hTq6_2 hoq6_2C hoq6_2R hoq6_2OC
    rw [← q_w6.out]
    clear q_w6
    have HX : Hid (∀ e, e = .returned (.tuple #[.agg #[.int .i64 y.1.most, .int .i64 y.1.credit, .int .i64 y.1.state, .int .i64 ((y.1.sq + 1) % 256), .int .i64 y.1.peer, .int .i64 1, .int .i64 y.1.ms, .string d], .agg #[.slice P3.A1 z.sigs.length P3.c1, .slice P3.A2 z.units.length P3.c2, .bool z.begins, .bool z.ends, .int .i64 z.ms, .int .i64 z.timer]]) → RPost K (n + 1) (Cn.begin_ (s, r) st d) w e w6) := fun e he => ⟨P3, he.trans (by (rw [HBE.out]; rfl)), by (refine ((HR6.out.less HL.out).wide (by omega)).eq ?_ ?_ <;> (rw [HBE.out])), HT6.out⟩
    have zOC0 : w6.cell? ⟨g + 1 + 1, 0, none⟩ = some (.int .i64 y.1.most) := HBOC6.out.cell 0
    have zOC1 : w6.cell? ⟨g + 1 + 1, 1, none⟩ = some (.int .i64 y.1.credit) := HBOC6.out.cell 1
    have zOC2 : w6.cell? ⟨g + 1 + 1, 2, none⟩ = some (.int .i64 y.1.state) := HBOC6.out.cell 2
    have zOC3 : w6.cell? ⟨g + 1 + 1, 3, none⟩ = some (.int .i64 ((y.1.sq + 1) % 256)) := HBOC6.out.cell 3
    have zOC4 : w6.cell? ⟨g + 1 + 1, 4, none⟩ = some (.int .i64 y.1.peer) := HBOC6.out.cell 4
    have zOC5 : w6.cell? ⟨g + 1 + 1, 5, none⟩ = some (.int .i64 1) := HBOC6.out.cell 5
    have zOC6 : w6.cell? ⟨g + 1 + 1, 6, none⟩ = some (.int .i64 y.1.ms) := HBOC6.out.cell 6
    have zOC7 : w6.cell? ⟨g + 1 + 1, 7, none⟩ = some (.string d) := HBOC6.out.cell 7
    have zOR0 : w6.cell? ⟨g + 1 + 1 + 1, 0, none⟩ = some (.slice P3.A1 z.sigs.length P3.c1) := HBOR6.out.cell 0
    have zOR1 : w6.cell? ⟨g + 1 + 1 + 1, 1, none⟩ = some (.slice P3.A2 z.units.length P3.c2) := HBOR6.out.cell 1
    have zOR2 : w6.cell? ⟨g + 1 + 1 + 1, 2, none⟩ = some (.bool z.begins) := HBOR6.out.cell 2
    have zOR3 : w6.cell? ⟨g + 1 + 1 + 1, 3, none⟩ = some (.bool z.ends) := HBOR6.out.cell 3
    have zOR4 : w6.cell? ⟨g + 1 + 1 + 1, 4, none⟩ = some (.int .i64 z.ms) := HBOR6.out.cell 4
    have zOR5 : w6.cell? ⟨g + 1 + 1 + 1, 5, none⟩ = some (.int .i64 z.timer) := HBOR6.out.cell 5
    go_wp2
    exact bodyPost_ret (v := _) (by simp [results, Try.results66, go_sem, zOC0, zOC1, zOC2, zOC3, zOC4, zOC5, zOC6, zOC7, zOR0, zOR1, zOR2, zOR3, zOR4, zOR5]) rfl (HX.out _ rfl)
end Go.Proofs.Ytkmegkjkbalooaa
