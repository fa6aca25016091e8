/-
  polliwogref14: Receive, four ways of it.
-/
import Derived.Test.YtkmegkjkbalooaaRi14
import Derived.RegionTactic
import Derived.ChangeAlike
import Derived.Deep.RegionLaw
import Derived.Deep.QuietTactic
import Derived.BigQuiet
import Derived.StillTailTactics
import Derived.Deep.DeepCutAuto
import Derived.Deep.CutBlock
namespace Go.Proofs.Ytkmegkjkbalooaa
open Go.RowKit

set_option maxHeartbeats 4000000 in
set_option maxRecDepth 100000 in
theorem rrec_15y {K : Nat → Prop} {w : World} (hlim : ∀ k, K k → k < w.heap.size) (mo cr sq pe cc ms pn lt : Int) (da : ByteArray) (self : Bool) (d : ByteArray) (hq : Ru.refOf 7 15 = 1) :
    Calls Try.prog 62 #[rcV ⟨mo, cr, 7, sq, pe, cc, ms, da⟩, ruV ⟨15, sq, pn, 0, 0, none, 0, 0, self, d⟩] w (RPost K 9 (Cn.hear 1 lt (⟨mo, cr, 7, sq, pe, cc, ms, da⟩, Cn.r0) ⟨15, sq, pn, 0, 0, none, 0, 0, self, d⟩) w) := by
  unfold rcV ruV
  dsimp only
  have h := RIn.nil (w := w) hlim
  obtain ⟨w1, q0⟩ : ∃ x : World, x = (((((w.alloc (.cells #[.int .i64 mo, .int .i64 cr, .int .i64 7, .int .i64 sq, .int .i64 pe, .int .i64 cc, .int .i64 ms, .string da] 59)).alloc (.cells #[.int .i64 15, .int .i64 sq, .int .i64 pn, .bool self, .string d] 110)).alloc (.cells #[.int .i64 0, .int .i64 0, .int .i64 0, .int .i64 0, .int .i64 0, .int .i64 0, .int .i64 0, .string { data := #[] }] 59)).alloc (.cells #[.slice none 0 0, .slice none 0 0, .bool false, .bool false, .int .i64 0, .int .i64 0] 90)).alloc (.cells #[.slice none 0 0, .slice none 0 0, .bool false, .bool false, .int .i64 0, .int .i64 0] 90)) := ⟨_, rfl⟩
  have q_w1 := Lib.hid q0
  clear q0
  have HF : Hid (Fresh w w1) := by rw [q_w1.out]; exact (((((Touch.refl _ w).alloc _).alloc _).alloc _).alloc _).alloc _
  have HBC1 : Hid (Blk w1 (w.heap.size) 59 [.int .i64 mo, .int .i64 cr, .int .i64 7, .int .i64 sq, .int .i64 pe, .int .i64 cc, .int .i64 ms, .string da]) := by
    rw [q_w1.out]
    have := ((((Blk.new w 59 [.int .i64 mo, .int .i64 cr, .int .i64 7, .int .i64 sq, .int .i64 pe, .int .i64 cc, .int .i64 ms, .string da]).alloc (.cells #[.int .i64 15, .int .i64 sq, .int .i64 pn, .bool self, .string d] 110)).alloc (.cells #[.int .i64 0, .int .i64 0, .int .i64 0, .int .i64 0, .int .i64 0, .int .i64 0, .int .i64 0, .string { data := #[] }] 59)).alloc (.cells #[.slice none 0 0, .slice none 0 0, .bool false, .bool false, .int .i64 0, .int .i64 0] 90)).alloc (.cells #[.slice none 0 0, .slice none 0 0, .bool false, .bool false, .int .i64 0, .int .i64 0] 90)
    exact this
  have HGC : Hid (Kept K w w1 (w.heap.size)) := by rw [q_w1.out]; exact .inr ⟨by omega, by simp; try omega⟩
  have HBU1 : Hid (Blk w1 (w.heap.size + 1) 110 [.int .i64 15, .int .i64 sq, .int .i64 pn, .bool self, .string d]) := by
    rw [q_w1.out]
    have := (((Blk.new (w.alloc (.cells #[.int .i64 mo, .int .i64 cr, .int .i64 7, .int .i64 sq, .int .i64 pe, .int .i64 cc, .int .i64 ms, .string da] 59)) 110 [.int .i64 15, .int .i64 sq, .int .i64 pn, .bool self, .string d]).alloc (.cells #[.int .i64 0, .int .i64 0, .int .i64 0, .int .i64 0, .int .i64 0, .int .i64 0, .int .i64 0, .string { data := #[] }] 59)).alloc (.cells #[.slice none 0 0, .slice none 0 0, .bool false, .bool false, .int .i64 0, .int .i64 0] 90)).alloc (.cells #[.slice none 0 0, .slice none 0 0, .bool false, .bool false, .int .i64 0, .int .i64 0] 90)
    rwa [show (w.alloc (.cells #[.int .i64 mo, .int .i64 cr, .int .i64 7, .int .i64 sq, .int .i64 pe, .int .i64 cc, .int .i64 ms, .string da] 59)).heap.size = w.heap.size + 1 by simp] at this
  have HGU : Hid (Kept K w w1 (w.heap.size + 1)) := by rw [q_w1.out]; exact .inr ⟨by omega, by simp; try omega⟩
  have HBOC1 : Hid (Blk w1 (w.heap.size + 1 + 1) 59 [.int .i64 0, .int .i64 0, .int .i64 0, .int .i64 0, .int .i64 0, .int .i64 0, .int .i64 0, .string { data := #[] }]) := by
    rw [q_w1.out]
    have := ((Blk.new ((w.alloc (.cells #[.int .i64 mo, .int .i64 cr, .int .i64 7, .int .i64 sq, .int .i64 pe, .int .i64 cc, .int .i64 ms, .string da] 59)).alloc (.cells #[.int .i64 15, .int .i64 sq, .int .i64 pn, .bool self, .string d] 110)) 59 [.int .i64 0, .int .i64 0, .int .i64 0, .int .i64 0, .int .i64 0, .int .i64 0, .int .i64 0, .string { data := #[] }]).alloc (.cells #[.slice none 0 0, .slice none 0 0, .bool false, .bool false, .int .i64 0, .int .i64 0] 90)).alloc (.cells #[.slice none 0 0, .slice none 0 0, .bool false, .bool false, .int .i64 0, .int .i64 0] 90)
    rwa [show ((w.alloc (.cells #[.int .i64 mo, .int .i64 cr, .int .i64 7, .int .i64 sq, .int .i64 pe, .int .i64 cc, .int .i64 ms, .string da] 59)).alloc (.cells #[.int .i64 15, .int .i64 sq, .int .i64 pn, .bool self, .string d] 110)).heap.size = w.heap.size + 1 + 1 by simp] at this
  have HGOC : Hid (Kept K w w1 (w.heap.size + 1 + 1)) := by rw [q_w1.out]; exact .inr ⟨by omega, by simp; try omega⟩
  have HBOR1 : Hid (Blk w1 (w.heap.size + 1 + 1 + 1) 90 [.slice none 0 0, .slice none 0 0, .bool false, .bool false, .int .i64 0, .int .i64 0]) := by
    rw [q_w1.out]
    have := (Blk.new (((w.alloc (.cells #[.int .i64 mo, .int .i64 cr, .int .i64 7, .int .i64 sq, .int .i64 pe, .int .i64 cc, .int .i64 ms, .string da] 59)).alloc (.cells #[.int .i64 15, .int .i64 sq, .int .i64 pn, .bool self, .string d] 110)).alloc (.cells #[.int .i64 0, .int .i64 0, .int .i64 0, .int .i64 0, .int .i64 0, .int .i64 0, .int .i64 0, .string { data := #[] }] 59)) 90 [.slice none 0 0, .slice none 0 0, .bool false, .bool false, .int .i64 0, .int .i64 0]).alloc (.cells #[.slice none 0 0, .slice none 0 0, .bool false, .bool false, .int .i64 0, .int .i64 0] 90)
    rwa [show (((w.alloc (.cells #[.int .i64 mo, .int .i64 cr, .int .i64 7, .int .i64 sq, .int .i64 pe, .int .i64 cc, .int .i64 ms, .string da] 59)).alloc (.cells #[.int .i64 15, .int .i64 sq, .int .i64 pn, .bool self, .string d] 110)).alloc (.cells #[.int .i64 0, .int .i64 0, .int .i64 0, .int .i64 0, .int .i64 0, .int .i64 0, .int .i64 0, .string { data := #[] }] 59)).heap.size = w.heap.size + 1 + 1 + 1 by simp] at this
  have HGOR : Hid (Kept K w w1 (w.heap.size + 1 + 1 + 1)) := by rw [q_w1.out]; exact .inr ⟨by omega, by simp; try omega⟩
  have HBR1 : Hid (Blk w1 (w.heap.size + 1 + 1 + 1 + 1) 90 [.slice none 0 0, .slice none 0 0, .bool false, .bool false, .int .i64 0, .int .i64 0]) := by
    rw [q_w1.out]
    have := Blk.new ((((w.alloc (.cells #[.int .i64 mo, .int .i64 cr, .int .i64 7, .int .i64 sq, .int .i64 pe, .int .i64 cc, .int .i64 ms, .string da] 59)).alloc (.cells #[.int .i64 15, .int .i64 sq, .int .i64 pn, .bool self, .string d] 110)).alloc (.cells #[.int .i64 0, .int .i64 0, .int .i64 0, .int .i64 0, .int .i64 0, .int .i64 0, .int .i64 0, .string { data := #[] }] 59)).alloc (.cells #[.slice none 0 0, .slice none 0 0, .bool false, .bool false, .int .i64 0, .int .i64 0] 90)) 90 [.slice none 0 0, .slice none 0 0, .bool false, .bool false, .int .i64 0, .int .i64 0]
    rwa [show ((((w.alloc (.cells #[.int .i64 mo, .int .i64 cr, .int .i64 7, .int .i64 sq, .int .i64 pe, .int .i64 cc, .int .i64 ms, .string da] 59)).alloc (.cells #[.int .i64 15, .int .i64 sq, .int .i64 pn, .bool self, .string d] 110)).alloc (.cells #[.int .i64 0, .int .i64 0, .int .i64 0, .int .i64 0, .int .i64 0, .int .i64 0, .int .i64 0, .string { data := #[] }] 59)).alloc (.cells #[.slice none 0 0, .slice none 0 0, .bool false, .bool false, .int .i64 0, .int .i64 0] 90)).heap.size = w.heap.size + 1 + 1 + 1 + 1 by simp] at this
  have HGR : Hid (Kept K w w1 (w.heap.size + 1 + 1 + 1 + 1)) := by rw [q_w1.out]; exact .inr ⟨by omega, by simp; try omega⟩
  have HL : Hid (∀ k, K k → Kept K w w1 k) := by rw [q_w1.out]; exact fun k e => .inl e
  have HLIM : Hid (∀ k, K k → k < w.heap.size) := h.lim
  have HR1 := Lib.hid (h.keep HF.out)
  have HT1 : Hid (Touch (OfAct K) w w1) := HF.out.mono (fun _ _ e => e.elim)
  clear h hlim HF
  go_enter Try.func62, Try.ntmps62
  go_upto_region 2 with (fail)
  rw [← q_w1.out]
  clear q_w1
  generalize Kept K w w1 = K1 at *
  generalize w.heap.size = g at *
  have HOF := Lib.hid (fun W => refOf_any 7 15 W)
  have HQQ := Lib.hid hq
  clear hq
  rw [HQQ.out] at HOF
  have xC0 : w1.cell? ⟨g, 0, none⟩ = some (.int .i64 mo) := HBC1.out.cell 0
  have xC1 : w1.cell? ⟨g, 1, none⟩ = some (.int .i64 cr) := HBC1.out.cell 1
  have xC2 : w1.cell? ⟨g, 2, none⟩ = some (.int .i64 7) := HBC1.out.cell 2
  have xC3 : w1.cell? ⟨g, 3, none⟩ = some (.int .i64 sq) := HBC1.out.cell 3
  have xC4 : w1.cell? ⟨g, 4, none⟩ = some (.int .i64 pe) := HBC1.out.cell 4
  have xC5 : w1.cell? ⟨g, 5, none⟩ = some (.int .i64 cc) := HBC1.out.cell 5
  have xC6 : w1.cell? ⟨g, 6, none⟩ = some (.int .i64 ms) := HBC1.out.cell 6
  have xC7 : w1.cell? ⟨g, 7, none⟩ = some (.string da) := HBC1.out.cell 7
  have xU0 : w1.cell? ⟨g + 1, 0, none⟩ = some (.int .i64 15) := HBU1.out.cell 0
  have xU1 : w1.cell? ⟨g + 1, 1, none⟩ = some (.int .i64 sq) := HBU1.out.cell 1
  have xU2 : w1.cell? ⟨g + 1, 2, none⟩ = some (.int .i64 pn) := HBU1.out.cell 2
  have xU3 : w1.cell? ⟨g + 1, 3, none⟩ = some (.bool self) := HBU1.out.cell 3
  have xU4 : w1.cell? ⟨g + 1, 4, none⟩ = some (.string d) := HBU1.out.cell 4
  go_wp2_with fail
  refine (HOF.out _).mono ?_
  rintro e w2 ⟨rfl, f2⟩
  have HBC2 := Lib.hid (f2.blk HBC1.out (fun e => e))
  have HBU2 := Lib.hid (f2.blk HBU1.out (fun e => e))
  have HBOC2 := Lib.hid (f2.blk HBOC1.out (fun e => e))
  have HBOR2 := Lib.hid (f2.blk HBOR1.out (fun e => e))
  have HBR2 := Lib.hid (f2.blk HBR1.out (fun e => e))
  have HR2 := Lib.hid (HR1.out.old f2)
  have HT2 : Hid (Touch (OfAct K) w w2) := HT1.out.trans f2 (fun _ _ e => e.elim)
  clear xC0 xC1 xC2 xC3 xC4 xC5 xC6 xC7 xU0 xU1 xU2 xU3 xU4
  clear f2 HBC1 HBU1 HBOC1 HBOR1 HBR1 HR1 HT1
  have xC0 : w2.cell? ⟨g, 0, none⟩ = some (.int .i64 mo) := HBC2.out.cell 0
  have fC0 := HBC2.out.frozen 0
  have xC1 : w2.cell? ⟨g, 1, none⟩ = some (.int .i64 cr) := HBC2.out.cell 1
  have fC1 := HBC2.out.frozen 1
  have xC2 : w2.cell? ⟨g, 2, none⟩ = some (.int .i64 7) := HBC2.out.cell 2
  have fC2 := HBC2.out.frozen 2
  have xC3 : w2.cell? ⟨g, 3, none⟩ = some (.int .i64 sq) := HBC2.out.cell 3
  have fC3 := HBC2.out.frozen 3
  have xC4 : w2.cell? ⟨g, 4, none⟩ = some (.int .i64 pe) := HBC2.out.cell 4
  have fC4 := HBC2.out.frozen 4
  have xC5 : w2.cell? ⟨g, 5, none⟩ = some (.int .i64 cc) := HBC2.out.cell 5
  have fC5 := HBC2.out.frozen 5
  have xC6 : w2.cell? ⟨g, 6, none⟩ = some (.int .i64 ms) := HBC2.out.cell 6
  have fC6 := HBC2.out.frozen 6
  have xC7 : w2.cell? ⟨g, 7, none⟩ = some (.string da) := HBC2.out.cell 7
  have fC7 := HBC2.out.frozen 7
  have xU0 : w2.cell? ⟨g + 1, 0, none⟩ = some (.int .i64 15) := HBU2.out.cell 0
  have xU1 : w2.cell? ⟨g + 1, 1, none⟩ = some (.int .i64 sq) := HBU2.out.cell 1
  have xU2 : w2.cell? ⟨g + 1, 2, none⟩ = some (.int .i64 pn) := HBU2.out.cell 2
  have xU3 : w2.cell? ⟨g + 1, 3, none⟩ = some (.bool self) := HBU2.out.cell 3
  have xU4 : w2.cell? ⟨g + 1, 4, none⟩ = some (.string d) := HBU2.out.cell 4
  have xR0 : w2.cell? ⟨g + 1 + 1 + 1 + 1, 0, none⟩ = some (.slice none 0 0) := HBR2.out.cell 0
  have xR1 : w2.cell? ⟨g + 1 + 1 + 1 + 1, 1, none⟩ = some (.slice none 0 0) := HBR2.out.cell 1
  have xR2 : w2.cell? ⟨g + 1 + 1 + 1 + 1, 2, none⟩ = some (.bool false) := HBR2.out.cell 2
  have xR3 : w2.cell? ⟨g + 1 + 1 + 1 + 1, 3, none⟩ = some (.bool false) := HBR2.out.cell 3
  have xR4 : w2.cell? ⟨g + 1 + 1 + 1 + 1, 4, none⟩ = some (.int .i64 0) := HBR2.out.cell 4
  have xR5 : w2.cell? ⟨g + 1 + 1 + 1 + 1, 5, none⟩ = some (.int .i64 0) := HBR2.out.cell 5
  go_upto_region 78 with (fail)
  have htq3_1 : Touch (· = g) w2 (w2.setCell ⟨g, 6, none⟩ (.int .i64 pn)) := ((Touch.refl _ w2).st (S := (· = g)) (u := .int .i64 pn) (by exact rfl))
  have hbq3_1 : Blk (w2.setCell ⟨g, 6, none⟩ (.int .i64 pn)) (g) 59 [.int .i64 mo, .int .i64 cr, .int .i64 7, .int .i64 sq, .int .i64 pe, .int .i64 cc, .int .i64 pn, .string da] := (HBC2.out.set 6 (.int .i64 pn))
  have hoq3_1U := htq3_1.blk HBU2.out (by intro e; have e : g + 1 = g := e; omega)
  have hoq3_1OC := htq3_1.blk HBOC2.out (by intro e; have e : g + 1 + 1 = g := e; omega)
  have hoq3_1OR := htq3_1.blk HBOR2.out (by intro e; have e : g + 1 + 1 + 1 = g := e; omega)
  have hoq3_1R := htq3_1.blk HBR2.out (by intro e; have e : g + 1 + 1 + 1 + 1 = g := e; omega)
  have hrq3_1 := HR2.out.touch htq3_1 (fun k e => by have e : k = g := e; rw [e]; exact HGC.out)
  have hTq3_1 : Touch (OfAct K) w (w2.setCell ⟨g, 6, none⟩ (.int .i64 pn)) := HT2.out.trans htq3_1 (fun k _ e => by have e : k = g := e; intro hk; have := HLIM.out k hk; omega)
  clear xC0 fC0 xC1 fC1 xC2 fC2 xC3 fC3 xC4 fC4 xC5 fC5 xC6 fC6 xC7 fC7 xU0 xU1 xU2 xU3 xU4 xR0 xR1 xR2 xR3 xR4 xR5
  have HBC3 : Hid (Blk (w2.setCell ⟨g, 6, none⟩ (.int .i64 pn)) (g) 59 [.int .i64 mo, .int .i64 cr, .int .i64 7, .int .i64 sq, .int .i64 pe, .int .i64 cc, .int .i64 pn, .string da]) := hbq3_1
  have HBU3 : Hid (Blk (w2.setCell ⟨g, 6, none⟩ (.int .i64 pn)) (g + 1) 110 [.int .i64 15, .int .i64 sq, .int .i64 pn, .bool self, .string d]) := hoq3_1U
  have HBOC3 : Hid (Blk (w2.setCell ⟨g, 6, none⟩ (.int .i64 pn)) (g + 1 + 1) 59 [.int .i64 0, .int .i64 0, .int .i64 0, .int .i64 0, .int .i64 0, .int .i64 0, .int .i64 0, .string { data := #[] }]) := hoq3_1OC
  have HBOR3 : Hid (Blk (w2.setCell ⟨g, 6, none⟩ (.int .i64 pn)) (g + 1 + 1 + 1) 90 [.slice none 0 0, .slice none 0 0, .bool false, .bool false, .int .i64 0, .int .i64 0]) := hoq3_1OR
  have HBR3 : Hid (Blk (w2.setCell ⟨g, 6, none⟩ (.int .i64 pn)) (g + 1 + 1 + 1 + 1) 90 [.slice none 0 0, .slice none 0 0, .bool false, .bool false, .int .i64 0, .int .i64 0]) := hoq3_1R
  have HR3 := Lib.hid hrq3_1
  have HT3 : Hid (Touch (OfAct K) w (w2.setCell ⟨g, 6, none⟩ (.int .i64 pn))) := hTq3_1
  clear HBC2 HBU2 HBOC2 HBOR2 HBR2 HR2 HT2 htq3_1 hbq3_1 hrq3_1 hTq3_1 hoq3_1U hoq3_1OC hoq3_1OR hoq3_1R
  generalize (w2.setCell ⟨g, 6, none⟩ (.int .i64 pn)) = w3 at *
  obtain ⟨z1, hz1⟩ : ∃ q_, { Cn.r0 with sigs := Cn.r0.sigs ++ [Cn.sig 7 false ByteArray.empty] } = q_ := ⟨_, rfl⟩
  have HZz1 := Lib.hid hz1
  clear hz1
  obtain ⟨y2, hy2⟩ : ∃ q_, Cn.toT ((⟨mo, cr, 7, sq, pe, cc, pn, da⟩ : Cn.S), z1) 8 2 = q_ := ⟨_, rfl⟩
  have HZy2 := Lib.hid hy2
  clear hy2
  have xC0 : w3.cell? ⟨g, 0, none⟩ = some (.int .i64 mo) := HBC3.out.cell 0
  have xC1 : w3.cell? ⟨g, 1, none⟩ = some (.int .i64 cr) := HBC3.out.cell 1
  have xC2 : w3.cell? ⟨g, 2, none⟩ = some (.int .i64 7) := HBC3.out.cell 2
  have xC3 : w3.cell? ⟨g, 3, none⟩ = some (.int .i64 sq) := HBC3.out.cell 3
  have xC4 : w3.cell? ⟨g, 4, none⟩ = some (.int .i64 pe) := HBC3.out.cell 4
  have xC5 : w3.cell? ⟨g, 5, none⟩ = some (.int .i64 cc) := HBC3.out.cell 5
  have xC6 : w3.cell? ⟨g, 6, none⟩ = some (.int .i64 pn) := HBC3.out.cell 6
  have xC7 : w3.cell? ⟨g, 7, none⟩ = some (.string da) := HBC3.out.cell 7
  have xR0 : w3.cell? ⟨g + 1 + 1 + 1 + 1, 0, none⟩ = some (.slice none 0 0) := HBR3.out.cell 0
  have xR1 : w3.cell? ⟨g + 1 + 1 + 1 + 1, 1, none⟩ = some (.slice none 0 0) := HBR3.out.cell 1
  have xR2 : w3.cell? ⟨g + 1 + 1 + 1 + 1, 2, none⟩ = some (.bool false) := HBR3.out.cell 2
  have xR3 : w3.cell? ⟨g + 1 + 1 + 1 + 1, 3, none⟩ = some (.bool false) := HBR3.out.cell 3
  have xR4 : w3.cell? ⟨g + 1 + 1 + 1 + 1, 4, none⟩ = some (.int .i64 0) := HBR3.out.cell 4
  have xR5 : w3.cell? ⟨g + 1 + 1 + 1 + 1, 5, none⟩ = some (.int .i64 0) := HBR3.out.cell 5
  have xU0 : w3.cell? ⟨g + 1, 0, none⟩ = some (.int .i64 15) := HBU3.out.cell 0
  have xU1 : w3.cell? ⟨g + 1, 1, none⟩ = some (.int .i64 sq) := HBU3.out.cell 1
  have xU2 : w3.cell? ⟨g + 1, 2, none⟩ = some (.int .i64 pn) := HBU3.out.cell 2
  have xU3 : w3.cell? ⟨g + 1, 3, none⟩ = some (.bool self) := HBU3.out.cell 3
  have xU4 : w3.cell? ⟨g + 1, 4, none⟩ = some (.string d) := HBU3.out.cell 4
  go_wp2
  go_region_law (first
    | (go_simp
       go_at_call 72
       refine (rtell_q (w := w3.drew) (r := Cn.r0) (HR3.out.old (Touch.refl _ w3).drew) (by omega) 7 false ByteArray.empty HZz1.out).mono ?_
       rintro e w4 ⟨Pz1, rfl, hr4, ht4⟩
       simp only [rcV, rrV]
       have HBC4 := Lib.hid (ht4.keptB (Blk.drew HBC3.out) HGC.out)
       have HBU4 := Lib.hid (ht4.keptB (Blk.drew HBU3.out) HGU.out)
       have HBOC4 := Lib.hid (ht4.keptB (Blk.drew HBOC3.out) HGOC.out)
       have HBOR4 := Lib.hid (ht4.keptB (Blk.drew HBOR3.out) HGOR.out)
       have HBR4 := Lib.hid (ht4.keptB (Blk.drew HBR3.out) HGR.out)
       have HR4 := Lib.hid hr4
       have HT4 : Hid (Touch (OfAct K) w w4) := HT3.out.drew.trans (ht4.loose HL.out) (fun _ _ e => e)
       clear hr4 ht4
       have yxC0 : w4.cell? ⟨g, 0, none⟩ = some (.int .i64 mo) := HBC4.out.cell 0
       have yxC1 : w4.cell? ⟨g, 1, none⟩ = some (.int .i64 cr) := HBC4.out.cell 1
       have yxC2 : w4.cell? ⟨g, 2, none⟩ = some (.int .i64 7) := HBC4.out.cell 2
       have yxC3 : w4.cell? ⟨g, 3, none⟩ = some (.int .i64 sq) := HBC4.out.cell 3
       have yxC4 : w4.cell? ⟨g, 4, none⟩ = some (.int .i64 pe) := HBC4.out.cell 4
       have yxC5 : w4.cell? ⟨g, 5, none⟩ = some (.int .i64 cc) := HBC4.out.cell 5
       have yxC6 : w4.cell? ⟨g, 6, none⟩ = some (.int .i64 pn) := HBC4.out.cell 6
       have yxC7 : w4.cell? ⟨g, 7, none⟩ = some (.string da) := HBC4.out.cell 7)
    | (go_simp
       go_at_call 69
       refine (rto_q (s := (⟨mo, cr, 7, sq, pe, cc, pn, da⟩ : Cn.S)) (r := z1) HR4.out 8 2 HZy2.out).mono ?_
       rintro e w5 ⟨Py2, rfl, hr5, ht5⟩
       simp only [rcV, rrV]
       have HBC5 := Lib.hid (ht5.keptB HBC4.out HGC.out)
       have HBU5 := Lib.hid (ht5.keptB HBU4.out HGU.out)
       have HBOC5 := Lib.hid (ht5.keptB HBOC4.out HGOC.out)
       have HBOR5 := Lib.hid (ht5.keptB HBOR4.out HGOR.out)
       have HBR5 := Lib.hid (ht5.keptB HBR4.out HGR.out)
       have HR5 := Lib.hid hr5
       have HT5 : Hid (Touch (OfAct K) w w5) := HT4.out.trans (ht5.loose HL.out) (fun _ _ e => e)
       clear hr5 ht5
       have zxOC0 : w5.cell? ⟨g + 1 + 1, 0, none⟩ = some (.int .i64 0) := HBOC5.out.cell 0
       have zfOC0 := HBOC5.out.frozen 0
       have zxOC1 : w5.cell? ⟨g + 1 + 1, 1, none⟩ = some (.int .i64 0) := HBOC5.out.cell 1
       have zfOC1 := HBOC5.out.frozen 1
       have zxOC2 : w5.cell? ⟨g + 1 + 1, 2, none⟩ = some (.int .i64 0) := HBOC5.out.cell 2
       have zfOC2 := HBOC5.out.frozen 2
       have zxOC3 : w5.cell? ⟨g + 1 + 1, 3, none⟩ = some (.int .i64 0) := HBOC5.out.cell 3
       have zfOC3 := HBOC5.out.frozen 3
       have zxOC4 : w5.cell? ⟨g + 1 + 1, 4, none⟩ = some (.int .i64 0) := HBOC5.out.cell 4
       have zfOC4 := HBOC5.out.frozen 4
       have zxOC5 : w5.cell? ⟨g + 1 + 1, 5, none⟩ = some (.int .i64 0) := HBOC5.out.cell 5
       have zfOC5 := HBOC5.out.frozen 5
       have zxOC6 : w5.cell? ⟨g + 1 + 1, 6, none⟩ = some (.int .i64 0) := HBOC5.out.cell 6
       have zfOC6 := HBOC5.out.frozen 6
       have zxOC7 : w5.cell? ⟨g + 1 + 1, 7, none⟩ = some (.string { data := #[] }) := HBOC5.out.cell 7
       have zfOC7 := HBOC5.out.frozen 7
       have zxOR0 : w5.cell? ⟨g + 1 + 1 + 1, 0, none⟩ = some (.slice none 0 0) := HBOR5.out.cell 0
       have zfOR0 := HBOR5.out.frozen 0
       have zxOR1 : w5.cell? ⟨g + 1 + 1 + 1, 1, none⟩ = some (.slice none 0 0) := HBOR5.out.cell 1
       have zfOR1 := HBOR5.out.frozen 1
       have zxOR2 : w5.cell? ⟨g + 1 + 1 + 1, 2, none⟩ = some (.bool false) := HBOR5.out.cell 2
       have zfOR2 := HBOR5.out.frozen 2
       have zxOR3 : w5.cell? ⟨g + 1 + 1 + 1, 3, none⟩ = some (.bool false) := HBOR5.out.cell 3
       have zfOR3 := HBOR5.out.frozen 3
       have zxOR4 : w5.cell? ⟨g + 1 + 1 + 1, 4, none⟩ = some (.int .i64 0) := HBOR5.out.cell 4
       have zfOR4 := HBOR5.out.frozen 4
       have zxOR5 : w5.cell? ⟨g + 1 + 1 + 1, 5, none⟩ = some (.int .i64 0) := HBOR5.out.cell 5
       have zfOR5 := HBOR5.out.frozen 5))
  all_goals
    have htq6_1 : Touch (· = g + 1 + 1) w5 ((((((((w5.setCell ⟨g + 1 + 1, 0, none⟩ (.int .i64 y2.1.most)).setCell ⟨g + 1 + 1, 1, none⟩ (.int .i64 y2.1.credit)).setCell ⟨g + 1 + 1, 2, none⟩ (.int .i64 y2.1.state)).setCell ⟨g + 1 + 1, 3, none⟩ (.int .i64 y2.1.sq)).setCell ⟨g + 1 + 1, 4, none⟩ (.int .i64 y2.1.peer)).setCell ⟨g + 1 + 1, 5, none⟩ (.int .i64 y2.1.cc)).setCell ⟨g + 1 + 1, 6, none⟩ (.int .i64 y2.1.ms)).setCell ⟨g + 1 + 1, 7, none⟩ (.string y2.1.data)) := (((((((((Touch.refl _ w5).st (S := (· = g + 1 + 1)) (u := .int .i64 y2.1.most) (by exact rfl)).st (S := (· = g + 1 + 1)) (u := .int .i64 y2.1.credit) (by exact rfl)).st (S := (· = g + 1 + 1)) (u := .int .i64 y2.1.state) (by exact rfl)).st (S := (· = g + 1 + 1)) (u := .int .i64 y2.1.sq) (by exact rfl)).st (S := (· = g + 1 + 1)) (u := .int .i64 y2.1.peer) (by exact rfl)).st (S := (· = g + 1 + 1)) (u := .int .i64 y2.1.cc) (by exact rfl)).st (S := (· = g + 1 + 1)) (u := .int .i64 y2.1.ms) (by exact rfl)).st (S := (· = g + 1 + 1)) (u := .string y2.1.data) (by exact rfl))
    have hbq6_1 : Blk ((((((((w5.setCell ⟨g + 1 + 1, 0, none⟩ (.int .i64 y2.1.most)).setCell ⟨g + 1 + 1, 1, none⟩ (.int .i64 y2.1.credit)).setCell ⟨g + 1 + 1, 2, none⟩ (.int .i64 y2.1.state)).setCell ⟨g + 1 + 1, 3, none⟩ (.int .i64 y2.1.sq)).setCell ⟨g + 1 + 1, 4, none⟩ (.int .i64 y2.1.peer)).setCell ⟨g + 1 + 1, 5, none⟩ (.int .i64 y2.1.cc)).setCell ⟨g + 1 + 1, 6, none⟩ (.int .i64 y2.1.ms)).setCell ⟨g + 1 + 1, 7, none⟩ (.string y2.1.data)) (g + 1 + 1) 59 [.int .i64 y2.1.most, .int .i64 y2.1.credit, .int .i64 y2.1.state, .int .i64 y2.1.sq, .int .i64 y2.1.peer, .int .i64 y2.1.cc, .int .i64 y2.1.ms, .string y2.1.data] := ((((((((HBOC5.out.set 0 (.int .i64 y2.1.most)).set 1 (.int .i64 y2.1.credit)).set 2 (.int .i64 y2.1.state)).set 3 (.int .i64 y2.1.sq)).set 4 (.int .i64 y2.1.peer)).set 5 (.int .i64 y2.1.cc)).set 6 (.int .i64 y2.1.ms)).set 7 (.string y2.1.data))
    have hoq6_1C := htq6_1.blk HBC5.out (by intro e; have e : g = g + 1 + 1 := e; omega)
    have hoq6_1U := htq6_1.blk HBU5.out (by intro e; have e : g + 1 = g + 1 + 1 := e; omega)
    have hoq6_1OR := htq6_1.blk HBOR5.out (by intro e; have e : g + 1 + 1 + 1 = g + 1 + 1 := e; omega)
    have hoq6_1R := htq6_1.blk HBR5.out (by intro e; have e : g + 1 + 1 + 1 + 1 = g + 1 + 1 := e; omega)
    have hrq6_1 := HR5.out.touch htq6_1 (fun k e => by have e : k = g + 1 + 1 := e; rw [e]; exact HGOC.out)
    have hTq6_1 : Touch (OfAct K) w ((((((((w5.setCell ⟨g + 1 + 1, 0, none⟩ (.int .i64 y2.1.most)).setCell ⟨g + 1 + 1, 1, none⟩ (.int .i64 y2.1.credit)).setCell ⟨g + 1 + 1, 2, none⟩ (.int .i64 y2.1.state)).setCell ⟨g + 1 + 1, 3, none⟩ (.int .i64 y2.1.sq)).setCell ⟨g + 1 + 1, 4, none⟩ (.int .i64 y2.1.peer)).setCell ⟨g + 1 + 1, 5, none⟩ (.int .i64 y2.1.cc)).setCell ⟨g + 1 + 1, 6, none⟩ (.int .i64 y2.1.ms)).setCell ⟨g + 1 + 1, 7, none⟩ (.string y2.1.data)) := HT5.out.trans htq6_1 (fun k _ e => by have e : k = g + 1 + 1 := e; intro hk; have := HLIM.out k hk; omega)
    obtain ⟨w6, q0⟩ : ∃ x : World, x = ((((((((((((((w5.setCell ⟨g + 1 + 1, 0, none⟩ (.int .i64 y2.1.most)).setCell ⟨g + 1 + 1, 1, none⟩ (.int .i64 y2.1.credit)).setCell ⟨g + 1 + 1, 2, none⟩ (.int .i64 y2.1.state)).setCell ⟨g + 1 + 1, 3, none⟩ (.int .i64 y2.1.sq)).setCell ⟨g + 1 + 1, 4, none⟩ (.int .i64 y2.1.peer)).setCell ⟨g + 1 + 1, 5, none⟩ (.int .i64 y2.1.cc)).setCell ⟨g + 1 + 1, 6, none⟩ (.int .i64 y2.1.ms)).setCell ⟨g + 1 + 1, 7, none⟩ (.string y2.1.data)).setCell ⟨g + 1 + 1 + 1, 0, none⟩ (.slice Py2.A1 y2.2.sigs.length Py2.c1)).setCell ⟨g + 1 + 1 + 1, 1, none⟩ (.slice Py2.A2 y2.2.units.length Py2.c2)).setCell ⟨g + 1 + 1 + 1, 2, none⟩ (.bool y2.2.begins)).setCell ⟨g + 1 + 1 + 1, 3, none⟩ (.bool y2.2.ends)).setCell ⟨g + 1 + 1 + 1, 4, none⟩ (.int .i64 y2.2.ms)).setCell ⟨g + 1 + 1 + 1, 5, none⟩ (.int .i64 y2.2.timer)) := ⟨_, rfl⟩
    have q_w6 := Lib.hid q0
    clear q0
    have htq6_2 : Touch (· = g + 1 + 1 + 1) ((((((((w5.setCell ⟨g + 1 + 1, 0, none⟩ (.int .i64 y2.1.most)).setCell ⟨g + 1 + 1, 1, none⟩ (.int .i64 y2.1.credit)).setCell ⟨g + 1 + 1, 2, none⟩ (.int .i64 y2.1.state)).setCell ⟨g + 1 + 1, 3, none⟩ (.int .i64 y2.1.sq)).setCell ⟨g + 1 + 1, 4, none⟩ (.int .i64 y2.1.peer)).setCell ⟨g + 1 + 1, 5, none⟩ (.int .i64 y2.1.cc)).setCell ⟨g + 1 + 1, 6, none⟩ (.int .i64 y2.1.ms)).setCell ⟨g + 1 + 1, 7, none⟩ (.string y2.1.data)) w6 := by rw [q_w6.out]; exact (((((((Touch.refl _ ((((((((w5.setCell ⟨g + 1 + 1, 0, none⟩ (.int .i64 y2.1.most)).setCell ⟨g + 1 + 1, 1, none⟩ (.int .i64 y2.1.credit)).setCell ⟨g + 1 + 1, 2, none⟩ (.int .i64 y2.1.state)).setCell ⟨g + 1 + 1, 3, none⟩ (.int .i64 y2.1.sq)).setCell ⟨g + 1 + 1, 4, none⟩ (.int .i64 y2.1.peer)).setCell ⟨g + 1 + 1, 5, none⟩ (.int .i64 y2.1.cc)).setCell ⟨g + 1 + 1, 6, none⟩ (.int .i64 y2.1.ms)).setCell ⟨g + 1 + 1, 7, none⟩ (.string y2.1.data))).st (S := (· = g + 1 + 1 + 1)) (u := .slice Py2.A1 y2.2.sigs.length Py2.c1) (by exact rfl)).st (S := (· = g + 1 + 1 + 1)) (u := .slice Py2.A2 y2.2.units.length Py2.c2) (by exact rfl)).st (S := (· = g + 1 + 1 + 1)) (u := .bool y2.2.begins) (by exact rfl)).st (S := (· = g + 1 + 1 + 1)) (u := .bool y2.2.ends) (by exact rfl)).st (S := (· = g + 1 + 1 + 1)) (u := .int .i64 y2.2.ms) (by exact rfl)).st (S := (· = g + 1 + 1 + 1)) (u := .int .i64 y2.2.timer) (by exact rfl))
    have hbq6_2 : Blk w6 (g + 1 + 1 + 1) 90 [.slice Py2.A1 y2.2.sigs.length Py2.c1, .slice Py2.A2 y2.2.units.length Py2.c2, .bool y2.2.begins, .bool y2.2.ends, .int .i64 y2.2.ms, .int .i64 y2.2.timer] := by rw [q_w6.out]; exact ((((((hoq6_1OR.set 0 (.slice Py2.A1 y2.2.sigs.length Py2.c1)).set 1 (.slice Py2.A2 y2.2.units.length Py2.c2)).set 2 (.bool y2.2.begins)).set 3 (.bool y2.2.ends)).set 4 (.int .i64 y2.2.ms)).set 5 (.int .i64 y2.2.timer))
    have hoq6_2C := htq6_2.blk hoq6_1C (by intro e; have e : g = g + 1 + 1 + 1 := e; omega)
    have hoq6_2U := htq6_2.blk hoq6_1U (by intro e; have e : g + 1 = g + 1 + 1 + 1 := e; omega)
    have hoq6_2OC := htq6_2.blk hbq6_1 (by intro e; have e : g + 1 + 1 = g + 1 + 1 + 1 := e; omega)
    have hoq6_2R := htq6_2.blk hoq6_1R (by intro e; have e : g + 1 + 1 + 1 + 1 = g + 1 + 1 + 1 := e; omega)
    have hrq6_2 := hrq6_1.touch htq6_2 (fun k e => by have e : k = g + 1 + 1 + 1 := e; rw [e]; exact HGOR.out)
    have hTq6_2 : Touch (OfAct K) w w6 := hTq6_1.trans htq6_2 (fun k _ e => by have e : k = g + 1 + 1 + 1 := e; intro hk; have := HLIM.out k hk; omega)
    clear xC0 xC1 xC2 xC3 xC4 xC5 xC6 xC7 xR0 xR1 xR2 xR3 xR4 xR5 xU0 xU1 xU2 xU3 xU4 yxC0 yxC1 yxC2 yxC3 yxC4 yxC5 yxC6 yxC7 zxOC0 zfOC0 zxOC1 zfOC1 zxOC2 zfOC2 zxOC3 zfOC3 zxOC4 zfOC4 zxOC5 zfOC5 zxOC6 zfOC6 zxOC7 zfOC7 zxOR0 zfOR0 zxOR1 zfOR1 zxOR2 zfOR2 zxOR3 zfOR3 zxOR4 zfOR4 zxOR5 zfOR5
    have HBC6 : Hid (Blk w6 (g) 59 [.int .i64 mo, .int .i64 cr, .int .i64 7, .int .i64 sq, .int .i64 pe, .int .i64 cc, .int .i64 pn, .string da]) := hoq6_2C
    have HBU6 : Hid (Blk w6 (g + 1) 110 [.int .i64 15, .int .i64 sq, .int .i64 pn, .bool self, .string d]) := hoq6_2U
    have HBOC6 : Hid (Blk w6 (g + 1 + 1) 59 [.int .i64 y2.1.most, .int .i64 y2.1.credit, .int .i64 y2.1.state, .int .i64 y2.1.sq, .int .i64 y2.1.peer, .int .i64 y2.1.cc, .int .i64 y2.1.ms, .string y2.1.data]) := hoq6_2OC
    have HBOR6 : Hid (Blk w6 (g + 1 + 1 + 1) 90 [.slice Py2.A1 y2.2.sigs.length Py2.c1, .slice Py2.A2 y2.2.units.length Py2.c2, .bool y2.2.begins, .bool y2.2.ends, .int .i64 y2.2.ms, .int .i64 y2.2.timer]) := hbq6_2
    have HBR6 : Hid (Blk w6 (g + 1 + 1 + 1 + 1) 90 [.slice none 0 0, .slice none 0 0, .bool false, .bool false, .int .i64 0, .int .i64 0]) := hoq6_2R
    have HR6 := Lib.hid hrq6_2
    have HT6 : Hid (Touch (OfAct K) w w6) := hTq6_2
    clear HBC5 HBU5 HBOC5 HBOR5 HBR5 HR5 HT5 htq6_1 hbq6_1 hrq6_1 hTq6_1 hoq6_1C hoq6_1U hoq6_1OR hoq6_1R htq6_2 hbq6_2 hrq6_2 hTq6_2 hoq6_2C hoq6_2U hoq6_2OC hoq6_2R
    rw [← q_w6.out]
    clear q_w6
    have HAE : Hid (Cn.hear 1 lt (⟨mo, cr, 7, sq, pe, cc, ms, da⟩, Cn.r0) ⟨15, sq, pn, 0, 0, none, 0, 0, self, d⟩ = y2) := by unfold Hid; rw [← HZy2.out, ← HZz1.out]; (unfold Cn.hear Cn.handle; (simp only [↓reduceIte, Int.reduceEq] <;> rfl))
    have HX : Hid (∀ e, e = .returned (.tuple #[.agg #[.int .i64 y2.1.most, .int .i64 y2.1.credit, .int .i64 y2.1.state, .int .i64 y2.1.sq, .int .i64 y2.1.peer, .int .i64 y2.1.cc, .int .i64 y2.1.ms, .string y2.1.data], .agg #[.slice Py2.A1 y2.2.sigs.length Py2.c1, .slice Py2.A2 y2.2.units.length Py2.c2, .bool y2.2.begins, .bool y2.2.ends, .int .i64 y2.2.ms, .int .i64 y2.2.timer]]) → RPost K (0 + 9) (Cn.hear 1 lt (⟨mo, cr, 7, sq, pe, cc, ms, da⟩, Cn.r0) ⟨15, sq, pn, 0, 0, none, 0, 0, self, d⟩) w e w6) := fun e he => ⟨Py2, he.trans (by (rw [HAE.out]; rfl)), by (refine ((HR6.out.less HL.out).wide (by omega)).eq ?_ ?_ <;> (rw [HAE.out])), HT6.out⟩
    have zOC0 : w6.cell? ⟨g + 1 + 1, 0, none⟩ = some (.int .i64 y2.1.most) := HBOC6.out.cell 0
    have zOC1 : w6.cell? ⟨g + 1 + 1, 1, none⟩ = some (.int .i64 y2.1.credit) := HBOC6.out.cell 1
    have zOC2 : w6.cell? ⟨g + 1 + 1, 2, none⟩ = some (.int .i64 y2.1.state) := HBOC6.out.cell 2
    have zOC3 : w6.cell? ⟨g + 1 + 1, 3, none⟩ = some (.int .i64 y2.1.sq) := HBOC6.out.cell 3
    have zOC4 : w6.cell? ⟨g + 1 + 1, 4, none⟩ = some (.int .i64 y2.1.peer) := HBOC6.out.cell 4
    have zOC5 : w6.cell? ⟨g + 1 + 1, 5, none⟩ = some (.int .i64 y2.1.cc) := HBOC6.out.cell 5
    have zOC6 : w6.cell? ⟨g + 1 + 1, 6, none⟩ = some (.int .i64 y2.1.ms) := HBOC6.out.cell 6
    have zOC7 : w6.cell? ⟨g + 1 + 1, 7, none⟩ = some (.string y2.1.data) := HBOC6.out.cell 7
    have zOR0 : w6.cell? ⟨g + 1 + 1 + 1, 0, none⟩ = some (.slice Py2.A1 y2.2.sigs.length Py2.c1) := HBOR6.out.cell 0
    have zOR1 : w6.cell? ⟨g + 1 + 1 + 1, 1, none⟩ = some (.slice Py2.A2 y2.2.units.length Py2.c2) := HBOR6.out.cell 1
    have zOR2 : w6.cell? ⟨g + 1 + 1 + 1, 2, none⟩ = some (.bool y2.2.begins) := HBOR6.out.cell 2
    have zOR3 : w6.cell? ⟨g + 1 + 1 + 1, 3, none⟩ = some (.bool y2.2.ends) := HBOR6.out.cell 3
    have zOR4 : w6.cell? ⟨g + 1 + 1 + 1, 4, none⟩ = some (.int .i64 y2.2.ms) := HBOR6.out.cell 4
    have zOR5 : w6.cell? ⟨g + 1 + 1 + 1, 5, none⟩ = some (.int .i64 y2.2.timer) := HBOR6.out.cell 5
    go_wp2
    exact bodyPost_ret (v := _) (by simp [results, Try.results62, go_sem, zOC0, zOC1, zOC2, zOC3, zOC4, zOC5, zOC6, zOC7, zOR0, zOR1, zOR2, zOR3, zOR4, zOR5]) rfl (HX.out _ rfl)

set_option maxHeartbeats 4000000 in
set_option maxRecDepth 100000 in
theorem rrec_1_1n {K : Nat → Prop} {w : World} (hlim : ∀ k, K k → k < w.heap.size) (mo cr sq pe cc ms psq pn lt : Int) (da : ByteArray) (self : Bool) (d : ByteArray) (hq : Ru.refOf 1 1 = 1) (ho : ¬ psq = pe) :
    Calls Try.prog 62 #[rcV ⟨mo, cr, 1, sq, pe, cc, ms, da⟩, ruV ⟨1, psq, pn, 0, 0, none, 0, 0, self, d⟩] w (RPost K 9 (Cn.hear 1 lt (⟨mo, cr, 1, sq, pe, cc, ms, da⟩, Cn.r0) ⟨1, psq, pn, 0, 0, none, 0, 0, self, d⟩) w) := by
  unfold rcV ruV
  dsimp only
  have h := RIn.nil (w := w) hlim
  obtain ⟨w1, q0⟩ : ∃ x : World, x = (((((w.alloc (.cells #[.int .i64 mo, .int .i64 cr, .int .i64 1, .int .i64 sq, .int .i64 pe, .int .i64 cc, .int .i64 ms, .string da] 59)).alloc (.cells #[.int .i64 1, .int .i64 psq, .int .i64 pn, .bool self, .string d] 110)).alloc (.cells #[.int .i64 0, .int .i64 0, .int .i64 0, .int .i64 0, .int .i64 0, .int .i64 0, .int .i64 0, .string { data := #[] }] 59)).alloc (.cells #[.slice none 0 0, .slice none 0 0, .bool false, .bool false, .int .i64 0, .int .i64 0] 90)).alloc (.cells #[.slice none 0 0, .slice none 0 0, .bool false, .bool false, .int .i64 0, .int .i64 0] 90)) := ⟨_, rfl⟩
  have q_w1 := Lib.hid q0
  clear q0
  have HF : Hid (Fresh w w1) := by rw [q_w1.out]; exact (((((Touch.refl _ w).alloc _).alloc _).alloc _).alloc _).alloc _
  have HBC1 : Hid (Blk w1 (w.heap.size) 59 [.int .i64 mo, .int .i64 cr, .int .i64 1, .int .i64 sq, .int .i64 pe, .int .i64 cc, .int .i64 ms, .string da]) := by
    rw [q_w1.out]
    have := ((((Blk.new w 59 [.int .i64 mo, .int .i64 cr, .int .i64 1, .int .i64 sq, .int .i64 pe, .int .i64 cc, .int .i64 ms, .string da]).alloc (.cells #[.int .i64 1, .int .i64 psq, .int .i64 pn, .bool self, .string d] 110)).alloc (.cells #[.int .i64 0, .int .i64 0, .int .i64 0, .int .i64 0, .int .i64 0, .int .i64 0, .int .i64 0, .string { data := #[] }] 59)).alloc (.cells #[.slice none 0 0, .slice none 0 0, .bool false, .bool false, .int .i64 0, .int .i64 0] 90)).alloc (.cells #[.slice none 0 0, .slice none 0 0, .bool false, .bool false, .int .i64 0, .int .i64 0] 90)
    exact this
  have HGC : Hid (Kept K w w1 (w.heap.size)) := by rw [q_w1.out]; exact .inr ⟨by omega, by simp; try omega⟩
  have HBU1 : Hid (Blk w1 (w.heap.size + 1) 110 [.int .i64 1, .int .i64 psq, .int .i64 pn, .bool self, .string d]) := by
    rw [q_w1.out]
    have := (((Blk.new (w.alloc (.cells #[.int .i64 mo, .int .i64 cr, .int .i64 1, .int .i64 sq, .int .i64 pe, .int .i64 cc, .int .i64 ms, .string da] 59)) 110 [.int .i64 1, .int .i64 psq, .int .i64 pn, .bool self, .string d]).alloc (.cells #[.int .i64 0, .int .i64 0, .int .i64 0, .int .i64 0, .int .i64 0, .int .i64 0, .int .i64 0, .string { data := #[] }] 59)).alloc (.cells #[.slice none 0 0, .slice none 0 0, .bool false, .bool false, .int .i64 0, .int .i64 0] 90)).alloc (.cells #[.slice none 0 0, .slice none 0 0, .bool false, .bool false, .int .i64 0, .int .i64 0] 90)
    rwa [show (w.alloc (.cells #[.int .i64 mo, .int .i64 cr, .int .i64 1, .int .i64 sq, .int .i64 pe, .int .i64 cc, .int .i64 ms, .string da] 59)).heap.size = w.heap.size + 1 by simp] at this
  have HGU : Hid (Kept K w w1 (w.heap.size + 1)) := by rw [q_w1.out]; exact .inr ⟨by omega, by simp; try omega⟩
  have HBOC1 : Hid (Blk w1 (w.heap.size + 1 + 1) 59 [.int .i64 0, .int .i64 0, .int .i64 0, .int .i64 0, .int .i64 0, .int .i64 0, .int .i64 0, .string { data := #[] }]) := by
    rw [q_w1.out]
    have := ((Blk.new ((w.alloc (.cells #[.int .i64 mo, .int .i64 cr, .int .i64 1, .int .i64 sq, .int .i64 pe, .int .i64 cc, .int .i64 ms, .string da] 59)).alloc (.cells #[.int .i64 1, .int .i64 psq, .int .i64 pn, .bool self, .string d] 110)) 59 [.int .i64 0, .int .i64 0, .int .i64 0, .int .i64 0, .int .i64 0, .int .i64 0, .int .i64 0, .string { data := #[] }]).alloc (.cells #[.slice none 0 0, .slice none 0 0, .bool false, .bool false, .int .i64 0, .int .i64 0] 90)).alloc (.cells #[.slice none 0 0, .slice none 0 0, .bool false, .bool false, .int .i64 0, .int .i64 0] 90)
    rwa [show ((w.alloc (.cells #[.int .i64 mo, .int .i64 cr, .int .i64 1, .int .i64 sq, .int .i64 pe, .int .i64 cc, .int .i64 ms, .string da] 59)).alloc (.cells #[.int .i64 1, .int .i64 psq, .int .i64 pn, .bool self, .string d] 110)).heap.size = w.heap.size + 1 + 1 by simp] at this
  have HGOC : Hid (Kept K w w1 (w.heap.size + 1 + 1)) := by rw [q_w1.out]; exact .inr ⟨by omega, by simp; try omega⟩
  have HBOR1 : Hid (Blk w1 (w.heap.size + 1 + 1 + 1) 90 [.slice none 0 0, .slice none 0 0, .bool false, .bool false, .int .i64 0, .int .i64 0]) := by
    rw [q_w1.out]
    have := (Blk.new (((w.alloc (.cells #[.int .i64 mo, .int .i64 cr, .int .i64 1, .int .i64 sq, .int .i64 pe, .int .i64 cc, .int .i64 ms, .string da] 59)).alloc (.cells #[.int .i64 1, .int .i64 psq, .int .i64 pn, .bool self, .string d] 110)).alloc (.cells #[.int .i64 0, .int .i64 0, .int .i64 0, .int .i64 0, .int .i64 0, .int .i64 0, .int .i64 0, .string { data := #[] }] 59)) 90 [.slice none 0 0, .slice none 0 0, .bool false, .bool false, .int .i64 0, .int .i64 0]).alloc (.cells #[.slice none 0 0, .slice none 0 0, .bool false, .bool false, .int .i64 0, .int .i64 0] 90)
    rwa [show (((w.alloc (.cells #[.int .i64 mo, .int .i64 cr, .int .i64 1, .int .i64 sq, .int .i64 pe, .int .i64 cc, .int .i64 ms, .string da] 59)).alloc (.cells #[.int .i64 1, .int .i64 psq, .int .i64 pn, .bool self, .string d] 110)).alloc (.cells #[.int .i64 0, .int .i64 0, .int .i64 0, .int .i64 0, .int .i64 0, .int .i64 0, .int .i64 0, .string { data := #[] }] 59)).heap.size = w.heap.size + 1 + 1 + 1 by simp] at this
  have HGOR : Hid (Kept K w w1 (w.heap.size + 1 + 1 + 1)) := by rw [q_w1.out]; exact .inr ⟨by omega, by simp; try omega⟩
  have HBR1 : Hid (Blk w1 (w.heap.size + 1 + 1 + 1 + 1) 90 [.slice none 0 0, .slice none 0 0, .bool false, .bool false, .int .i64 0, .int .i64 0]) := by
    rw [q_w1.out]
    have := Blk.new ((((w.alloc (.cells #[.int .i64 mo, .int .i64 cr, .int .i64 1, .int .i64 sq, .int .i64 pe, .int .i64 cc, .int .i64 ms, .string da] 59)).alloc (.cells #[.int .i64 1, .int .i64 psq, .int .i64 pn, .bool self, .string d] 110)).alloc (.cells #[.int .i64 0, .int .i64 0, .int .i64 0, .int .i64 0, .int .i64 0, .int .i64 0, .int .i64 0, .string { data := #[] }] 59)).alloc (.cells #[.slice none 0 0, .slice none 0 0, .bool false, .bool false, .int .i64 0, .int .i64 0] 90)) 90 [.slice none 0 0, .slice none 0 0, .bool false, .bool false, .int .i64 0, .int .i64 0]
    rwa [show ((((w.alloc (.cells #[.int .i64 mo, .int .i64 cr, .int .i64 1, .int .i64 sq, .int .i64 pe, .int .i64 cc, .int .i64 ms, .string da] 59)).alloc (.cells #[.int .i64 1, .int .i64 psq, .int .i64 pn, .bool self, .string d] 110)).alloc (.cells #[.int .i64 0, .int .i64 0, .int .i64 0, .int .i64 0, .int .i64 0, .int .i64 0, .int .i64 0, .string { data := #[] }] 59)).alloc (.cells #[.slice none 0 0, .slice none 0 0, .bool false, .bool false, .int .i64 0, .int .i64 0] 90)).heap.size = w.heap.size + 1 + 1 + 1 + 1 by simp] at this
  have HGR : Hid (Kept K w w1 (w.heap.size + 1 + 1 + 1 + 1)) := by rw [q_w1.out]; exact .inr ⟨by omega, by simp; try omega⟩
  have HL : Hid (∀ k, K k → Kept K w w1 k) := by rw [q_w1.out]; exact fun k e => .inl e
  have HLIM : Hid (∀ k, K k → k < w.heap.size) := h.lim
  have HR1 := Lib.hid (h.keep HF.out)
  have HT1 : Hid (Touch (OfAct K) w w1) := HF.out.mono (fun _ _ e => e.elim)
  clear h hlim HF
  go_enter Try.func62, Try.ntmps62
  go_upto_region 2 with (fail)
  rw [← q_w1.out]
  clear q_w1
  generalize Kept K w w1 = K1 at *
  generalize w.heap.size = g at *
  have HOF := Lib.hid (fun W => refOf_any 1 1 W)
  have HQQ := Lib.hid hq
  clear hq
  rw [HQQ.out] at HOF
  have xC0 : w1.cell? ⟨g, 0, none⟩ = some (.int .i64 mo) := HBC1.out.cell 0
  have xC1 : w1.cell? ⟨g, 1, none⟩ = some (.int .i64 cr) := HBC1.out.cell 1
  have xC2 : w1.cell? ⟨g, 2, none⟩ = some (.int .i64 1) := HBC1.out.cell 2
  have xC3 : w1.cell? ⟨g, 3, none⟩ = some (.int .i64 sq) := HBC1.out.cell 3
  have xC4 : w1.cell? ⟨g, 4, none⟩ = some (.int .i64 pe) := HBC1.out.cell 4
  have xC5 : w1.cell? ⟨g, 5, none⟩ = some (.int .i64 cc) := HBC1.out.cell 5
  have xC6 : w1.cell? ⟨g, 6, none⟩ = some (.int .i64 ms) := HBC1.out.cell 6
  have xC7 : w1.cell? ⟨g, 7, none⟩ = some (.string da) := HBC1.out.cell 7
  have xU0 : w1.cell? ⟨g + 1, 0, none⟩ = some (.int .i64 1) := HBU1.out.cell 0
  have xU1 : w1.cell? ⟨g + 1, 1, none⟩ = some (.int .i64 psq) := HBU1.out.cell 1
  have xU2 : w1.cell? ⟨g + 1, 2, none⟩ = some (.int .i64 pn) := HBU1.out.cell 2
  have xU3 : w1.cell? ⟨g + 1, 3, none⟩ = some (.bool self) := HBU1.out.cell 3
  have xU4 : w1.cell? ⟨g + 1, 4, none⟩ = some (.string d) := HBU1.out.cell 4
  go_wp2_with fail
  refine (HOF.out _).mono ?_
  rintro e w2 ⟨rfl, f2⟩
  have HBC2 := Lib.hid (f2.blk HBC1.out (fun e => e))
  have HBU2 := Lib.hid (f2.blk HBU1.out (fun e => e))
  have HBOC2 := Lib.hid (f2.blk HBOC1.out (fun e => e))
  have HBOR2 := Lib.hid (f2.blk HBOR1.out (fun e => e))
  have HBR2 := Lib.hid (f2.blk HBR1.out (fun e => e))
  have HR2 := Lib.hid (HR1.out.old f2)
  have HT2 : Hid (Touch (OfAct K) w w2) := HT1.out.trans f2 (fun _ _ e => e.elim)
  clear xC0 xC1 xC2 xC3 xC4 xC5 xC6 xC7 xU0 xU1 xU2 xU3 xU4
  clear f2 HBC1 HBU1 HBOC1 HBOR1 HBR1 HR1 HT1
  have HNO := Lib.hid ho
  have bo : (psq == pe) = false := by simpa using ho
  clear ho
  have xC0 : w2.cell? ⟨g, 0, none⟩ = some (.int .i64 mo) := HBC2.out.cell 0
  have fC0 := HBC2.out.frozen 0
  have xC1 : w2.cell? ⟨g, 1, none⟩ = some (.int .i64 cr) := HBC2.out.cell 1
  have fC1 := HBC2.out.frozen 1
  have xC2 : w2.cell? ⟨g, 2, none⟩ = some (.int .i64 1) := HBC2.out.cell 2
  have fC2 := HBC2.out.frozen 2
  have xC3 : w2.cell? ⟨g, 3, none⟩ = some (.int .i64 sq) := HBC2.out.cell 3
  have fC3 := HBC2.out.frozen 3
  have xC4 : w2.cell? ⟨g, 4, none⟩ = some (.int .i64 pe) := HBC2.out.cell 4
  have fC4 := HBC2.out.frozen 4
  have xC5 : w2.cell? ⟨g, 5, none⟩ = some (.int .i64 cc) := HBC2.out.cell 5
  have fC5 := HBC2.out.frozen 5
  have xC6 : w2.cell? ⟨g, 6, none⟩ = some (.int .i64 ms) := HBC2.out.cell 6
  have fC6 := HBC2.out.frozen 6
  have xC7 : w2.cell? ⟨g, 7, none⟩ = some (.string da) := HBC2.out.cell 7
  have fC7 := HBC2.out.frozen 7
  have xU0 : w2.cell? ⟨g + 1, 0, none⟩ = some (.int .i64 1) := HBU2.out.cell 0
  have xU1 : w2.cell? ⟨g + 1, 1, none⟩ = some (.int .i64 psq) := HBU2.out.cell 1
  have xU2 : w2.cell? ⟨g + 1, 2, none⟩ = some (.int .i64 pn) := HBU2.out.cell 2
  have xU3 : w2.cell? ⟨g + 1, 3, none⟩ = some (.bool self) := HBU2.out.cell 3
  have xU4 : w2.cell? ⟨g + 1, 4, none⟩ = some (.string d) := HBU2.out.cell 4
  have xR0 : w2.cell? ⟨g + 1 + 1 + 1 + 1, 0, none⟩ = some (.slice none 0 0) := HBR2.out.cell 0
  have xR1 : w2.cell? ⟨g + 1 + 1 + 1 + 1, 1, none⟩ = some (.slice none 0 0) := HBR2.out.cell 1
  have xR2 : w2.cell? ⟨g + 1 + 1 + 1 + 1, 2, none⟩ = some (.bool false) := HBR2.out.cell 2
  have xR3 : w2.cell? ⟨g + 1 + 1 + 1 + 1, 3, none⟩ = some (.bool false) := HBR2.out.cell 3
  have xR4 : w2.cell? ⟨g + 1 + 1 + 1 + 1, 4, none⟩ = some (.int .i64 0) := HBR2.out.cell 4
  have xR5 : w2.cell? ⟨g + 1 + 1 + 1 + 1, 5, none⟩ = some (.int .i64 0) := HBR2.out.cell 5
  go_upto_region 18 with (fail)
  have htq3_1 : Touch (· = g) w2 ((w2.setCell ⟨g, 4, none⟩ (.int .i64 psq)).setCell ⟨g, 6, none⟩ (.int .i64 pn)) := (((Touch.refl _ w2).st (S := (· = g)) (u := .int .i64 psq) (by exact rfl)).st (S := (· = g)) (u := .int .i64 pn) (by exact rfl))
  have hbq3_1 : Blk ((w2.setCell ⟨g, 4, none⟩ (.int .i64 psq)).setCell ⟨g, 6, none⟩ (.int .i64 pn)) (g) 59 [.int .i64 mo, .int .i64 cr, .int .i64 1, .int .i64 sq, .int .i64 psq, .int .i64 cc, .int .i64 pn, .string da] := ((HBC2.out.set 4 (.int .i64 psq)).set 6 (.int .i64 pn))
  have hoq3_1U := htq3_1.blk HBU2.out (by intro e; have e : g + 1 = g := e; omega)
  have hoq3_1OC := htq3_1.blk HBOC2.out (by intro e; have e : g + 1 + 1 = g := e; omega)
  have hoq3_1OR := htq3_1.blk HBOR2.out (by intro e; have e : g + 1 + 1 + 1 = g := e; omega)
  have hoq3_1R := htq3_1.blk HBR2.out (by intro e; have e : g + 1 + 1 + 1 + 1 = g := e; omega)
  have hrq3_1 := HR2.out.touch htq3_1 (fun k e => by have e : k = g := e; rw [e]; exact HGC.out)
  have hTq3_1 : Touch (OfAct K) w ((w2.setCell ⟨g, 4, none⟩ (.int .i64 psq)).setCell ⟨g, 6, none⟩ (.int .i64 pn)) := HT2.out.trans htq3_1 (fun k _ e => by have e : k = g := e; intro hk; have := HLIM.out k hk; omega)
  clear xC0 fC0 xC1 fC1 xC2 fC2 xC3 fC3 xC4 fC4 xC5 fC5 xC6 fC6 xC7 fC7 xU0 xU1 xU2 xU3 xU4 xR0 xR1 xR2 xR3 xR4 xR5
  have HBC3 : Hid (Blk ((w2.setCell ⟨g, 4, none⟩ (.int .i64 psq)).setCell ⟨g, 6, none⟩ (.int .i64 pn)) (g) 59 [.int .i64 mo, .int .i64 cr, .int .i64 1, .int .i64 sq, .int .i64 psq, .int .i64 cc, .int .i64 pn, .string da]) := hbq3_1
  have HBU3 : Hid (Blk ((w2.setCell ⟨g, 4, none⟩ (.int .i64 psq)).setCell ⟨g, 6, none⟩ (.int .i64 pn)) (g + 1) 110 [.int .i64 1, .int .i64 psq, .int .i64 pn, .bool self, .string d]) := hoq3_1U
  have HBOC3 : Hid (Blk ((w2.setCell ⟨g, 4, none⟩ (.int .i64 psq)).setCell ⟨g, 6, none⟩ (.int .i64 pn)) (g + 1 + 1) 59 [.int .i64 0, .int .i64 0, .int .i64 0, .int .i64 0, .int .i64 0, .int .i64 0, .int .i64 0, .string { data := #[] }]) := hoq3_1OC
  have HBOR3 : Hid (Blk ((w2.setCell ⟨g, 4, none⟩ (.int .i64 psq)).setCell ⟨g, 6, none⟩ (.int .i64 pn)) (g + 1 + 1 + 1) 90 [.slice none 0 0, .slice none 0 0, .bool false, .bool false, .int .i64 0, .int .i64 0]) := hoq3_1OR
  have HBR3 : Hid (Blk ((w2.setCell ⟨g, 4, none⟩ (.int .i64 psq)).setCell ⟨g, 6, none⟩ (.int .i64 pn)) (g + 1 + 1 + 1 + 1) 90 [.slice none 0 0, .slice none 0 0, .bool false, .bool false, .int .i64 0, .int .i64 0]) := hoq3_1R
  have HR3 := Lib.hid hrq3_1
  have HT3 : Hid (Touch (OfAct K) w ((w2.setCell ⟨g, 4, none⟩ (.int .i64 psq)).setCell ⟨g, 6, none⟩ (.int .i64 pn))) := hTq3_1
  clear HBC2 HBU2 HBOC2 HBOR2 HBR2 HR2 HT2 htq3_1 hbq3_1 hrq3_1 hTq3_1 hoq3_1U hoq3_1OC hoq3_1OR hoq3_1R
  generalize ((w2.setCell ⟨g, 4, none⟩ (.int .i64 psq)).setCell ⟨g, 6, none⟩ (.int .i64 pn)) = w3 at *
  obtain ⟨z1, hz1⟩ : ∃ q_, { Cn.r0 with sigs := Cn.r0.sigs ++ [Cn.sig 1 false d] } = q_ := ⟨_, rfl⟩
  have HZz1 := Lib.hid hz1
  clear hz1
  have xC0 : w3.cell? ⟨g, 0, none⟩ = some (.int .i64 mo) := HBC3.out.cell 0
  have xC1 : w3.cell? ⟨g, 1, none⟩ = some (.int .i64 cr) := HBC3.out.cell 1
  have xC2 : w3.cell? ⟨g, 2, none⟩ = some (.int .i64 1) := HBC3.out.cell 2
  have xC3 : w3.cell? ⟨g, 3, none⟩ = some (.int .i64 sq) := HBC3.out.cell 3
  have xC4 : w3.cell? ⟨g, 4, none⟩ = some (.int .i64 psq) := HBC3.out.cell 4
  have xC5 : w3.cell? ⟨g, 5, none⟩ = some (.int .i64 cc) := HBC3.out.cell 5
  have xC6 : w3.cell? ⟨g, 6, none⟩ = some (.int .i64 pn) := HBC3.out.cell 6
  have xC7 : w3.cell? ⟨g, 7, none⟩ = some (.string da) := HBC3.out.cell 7
  have xR0 : w3.cell? ⟨g + 1 + 1 + 1 + 1, 0, none⟩ = some (.slice none 0 0) := HBR3.out.cell 0
  have xR1 : w3.cell? ⟨g + 1 + 1 + 1 + 1, 1, none⟩ = some (.slice none 0 0) := HBR3.out.cell 1
  have xR2 : w3.cell? ⟨g + 1 + 1 + 1 + 1, 2, none⟩ = some (.bool false) := HBR3.out.cell 2
  have xR3 : w3.cell? ⟨g + 1 + 1 + 1 + 1, 3, none⟩ = some (.bool false) := HBR3.out.cell 3
  have xR4 : w3.cell? ⟨g + 1 + 1 + 1 + 1, 4, none⟩ = some (.int .i64 0) := HBR3.out.cell 4
  have xR5 : w3.cell? ⟨g + 1 + 1 + 1 + 1, 5, none⟩ = some (.int .i64 0) := HBR3.out.cell 5
  have xU0 : w3.cell? ⟨g + 1, 0, none⟩ = some (.int .i64 1) := HBU3.out.cell 0
  have xU1 : w3.cell? ⟨g + 1, 1, none⟩ = some (.int .i64 psq) := HBU3.out.cell 1
  have xU2 : w3.cell? ⟨g + 1, 2, none⟩ = some (.int .i64 pn) := HBU3.out.cell 2
  have xU3 : w3.cell? ⟨g + 1, 3, none⟩ = some (.bool self) := HBU3.out.cell 3
  have xU4 : w3.cell? ⟨g + 1, 4, none⟩ = some (.string d) := HBU3.out.cell 4
  go_wp2_with fail
  refine (rtell_q (r := Cn.r0) HR3.out (by omega) 1 false d HZz1.out).mono ?_
  rintro e w4 ⟨Pz1, rfl, hr4, ht4⟩
  simp only [rcV, rrV]
  have HBC4 := Lib.hid (ht4.keptB HBC3.out HGC.out)
  have HBU4 := Lib.hid (ht4.keptB HBU3.out HGU.out)
  have HBOC4 := Lib.hid (ht4.keptB HBOC3.out HGOC.out)
  have HBOR4 := Lib.hid (ht4.keptB HBOR3.out HGOR.out)
  have HBR4 := Lib.hid (ht4.keptB HBR3.out HGR.out)
  have HR4 := Lib.hid hr4
  have HT4 : Hid (Touch (OfAct K) w w4) := HT3.out.trans (ht4.loose HL.out) (fun _ _ e => e)
  clear xC0 xC1 xC2 xC3 xC4 xC5 xC6 xC7 xR0 xR1 xR2 xR3 xR4 xR5 xU0 xU1 xU2 xU3 xU4
  clear hr4 ht4 HBC3 HBU3 HBOC3 HBOR3 HBR3 HR3 HT3
  have xC0 : w4.cell? ⟨g, 0, none⟩ = some (.int .i64 mo) := HBC4.out.cell 0
  have xC1 : w4.cell? ⟨g, 1, none⟩ = some (.int .i64 cr) := HBC4.out.cell 1
  have xC2 : w4.cell? ⟨g, 2, none⟩ = some (.int .i64 1) := HBC4.out.cell 2
  have xC3 : w4.cell? ⟨g, 3, none⟩ = some (.int .i64 sq) := HBC4.out.cell 3
  have xC4 : w4.cell? ⟨g, 4, none⟩ = some (.int .i64 psq) := HBC4.out.cell 4
  have xC5 : w4.cell? ⟨g, 5, none⟩ = some (.int .i64 cc) := HBC4.out.cell 5
  have xC6 : w4.cell? ⟨g, 6, none⟩ = some (.int .i64 pn) := HBC4.out.cell 6
  have xC7 : w4.cell? ⟨g, 7, none⟩ = some (.string da) := HBC4.out.cell 7
  have xR0 : w4.cell? ⟨g + 1 + 1 + 1 + 1, 0, none⟩ = some (.slice none 0 0) := HBR4.out.cell 0
  have fR0 := HBR4.out.frozen 0
  have xR1 : w4.cell? ⟨g + 1 + 1 + 1 + 1, 1, none⟩ = some (.slice none 0 0) := HBR4.out.cell 1
  have fR1 := HBR4.out.frozen 1
  have xR2 : w4.cell? ⟨g + 1 + 1 + 1 + 1, 2, none⟩ = some (.bool false) := HBR4.out.cell 2
  have fR2 := HBR4.out.frozen 2
  have xR3 : w4.cell? ⟨g + 1 + 1 + 1 + 1, 3, none⟩ = some (.bool false) := HBR4.out.cell 3
  have fR3 := HBR4.out.frozen 3
  have xR4 : w4.cell? ⟨g + 1 + 1 + 1 + 1, 4, none⟩ = some (.int .i64 0) := HBR4.out.cell 4
  have fR4 := HBR4.out.frozen 4
  have xR5 : w4.cell? ⟨g + 1 + 1 + 1 + 1, 5, none⟩ = some (.int .i64 0) := HBR4.out.cell 5
  have fR5 := HBR4.out.frozen 5
  have xU0 : w4.cell? ⟨g + 1, 0, none⟩ = some (.int .i64 1) := HBU4.out.cell 0
  have xU1 : w4.cell? ⟨g + 1, 1, none⟩ = some (.int .i64 psq) := HBU4.out.cell 1
  have xU2 : w4.cell? ⟨g + 1, 2, none⟩ = some (.int .i64 pn) := HBU4.out.cell 2
  have xU3 : w4.cell? ⟨g + 1, 3, none⟩ = some (.bool self) := HBU4.out.cell 3
  have xU4 : w4.cell? ⟨g + 1, 4, none⟩ = some (.string d) := HBU4.out.cell 4
  go_upto_region 35 with (fail)
  obtain ⟨w5, q0⟩ : ∃ x : World, x = ((((((w4.setCell ⟨g + 1 + 1 + 1 + 1, 0, none⟩ (.slice Pz1.A1 z1.sigs.length Pz1.c1)).setCell ⟨g + 1 + 1 + 1 + 1, 1, none⟩ (.slice Pz1.A2 z1.units.length Pz1.c2)).setCell ⟨g + 1 + 1 + 1 + 1, 2, none⟩ (.bool z1.begins)).setCell ⟨g + 1 + 1 + 1 + 1, 3, none⟩ (.bool z1.ends)).setCell ⟨g + 1 + 1 + 1 + 1, 4, none⟩ (.int .i64 z1.ms)).setCell ⟨g + 1 + 1 + 1 + 1, 5, none⟩ (.int .i64 z1.timer)) := ⟨_, rfl⟩
  have q_w5 := Lib.hid q0
  clear q0
  have htq5_1 : Touch (· = g + 1 + 1 + 1 + 1) w4 w5 := by rw [q_w5.out]; exact (((((((Touch.refl _ w4).st (S := (· = g + 1 + 1 + 1 + 1)) (u := .slice Pz1.A1 z1.sigs.length Pz1.c1) (by exact rfl)).st (S := (· = g + 1 + 1 + 1 + 1)) (u := .slice Pz1.A2 z1.units.length Pz1.c2) (by exact rfl)).st (S := (· = g + 1 + 1 + 1 + 1)) (u := .bool z1.begins) (by exact rfl)).st (S := (· = g + 1 + 1 + 1 + 1)) (u := .bool z1.ends) (by exact rfl)).st (S := (· = g + 1 + 1 + 1 + 1)) (u := .int .i64 z1.ms) (by exact rfl)).st (S := (· = g + 1 + 1 + 1 + 1)) (u := .int .i64 z1.timer) (by exact rfl))
  have hbq5_1 : Blk w5 (g + 1 + 1 + 1 + 1) 90 [.slice Pz1.A1 z1.sigs.length Pz1.c1, .slice Pz1.A2 z1.units.length Pz1.c2, .bool z1.begins, .bool z1.ends, .int .i64 z1.ms, .int .i64 z1.timer] := by rw [q_w5.out]; exact ((((((HBR4.out.set 0 (.slice Pz1.A1 z1.sigs.length Pz1.c1)).set 1 (.slice Pz1.A2 z1.units.length Pz1.c2)).set 2 (.bool z1.begins)).set 3 (.bool z1.ends)).set 4 (.int .i64 z1.ms)).set 5 (.int .i64 z1.timer))
  have hoq5_1C := htq5_1.blk HBC4.out (by intro e; have e : g = g + 1 + 1 + 1 + 1 := e; omega)
  have hoq5_1U := htq5_1.blk HBU4.out (by intro e; have e : g + 1 = g + 1 + 1 + 1 + 1 := e; omega)
  have hoq5_1OC := htq5_1.blk HBOC4.out (by intro e; have e : g + 1 + 1 = g + 1 + 1 + 1 + 1 := e; omega)
  have hoq5_1OR := htq5_1.blk HBOR4.out (by intro e; have e : g + 1 + 1 + 1 = g + 1 + 1 + 1 + 1 := e; omega)
  have hrq5_1 := HR4.out.touch htq5_1 (fun k e => by have e : k = g + 1 + 1 + 1 + 1 := e; rw [e]; exact HGR.out)
  have hTq5_1 : Touch (OfAct K) w w5 := HT4.out.trans htq5_1 (fun k _ e => by have e : k = g + 1 + 1 + 1 + 1 := e; intro hk; have := HLIM.out k hk; omega)
  clear xC0 xC1 xC2 xC3 xC4 xC5 xC6 xC7 xR0 fR0 xR1 fR1 xR2 fR2 xR3 fR3 xR4 fR4 xR5 fR5 xU0 xU1 xU2 xU3 xU4
  have HBC5 : Hid (Blk w5 (g) 59 [.int .i64 mo, .int .i64 cr, .int .i64 1, .int .i64 sq, .int .i64 psq, .int .i64 cc, .int .i64 pn, .string da]) := hoq5_1C
  have HBU5 : Hid (Blk w5 (g + 1) 110 [.int .i64 1, .int .i64 psq, .int .i64 pn, .bool self, .string d]) := hoq5_1U
  have HBOC5 : Hid (Blk w5 (g + 1 + 1) 59 [.int .i64 0, .int .i64 0, .int .i64 0, .int .i64 0, .int .i64 0, .int .i64 0, .int .i64 0, .string { data := #[] }]) := hoq5_1OC
  have HBOR5 : Hid (Blk w5 (g + 1 + 1 + 1) 90 [.slice none 0 0, .slice none 0 0, .bool false, .bool false, .int .i64 0, .int .i64 0]) := hoq5_1OR
  have HBR5 : Hid (Blk w5 (g + 1 + 1 + 1 + 1) 90 [.slice Pz1.A1 z1.sigs.length Pz1.c1, .slice Pz1.A2 z1.units.length Pz1.c2, .bool z1.begins, .bool z1.ends, .int .i64 z1.ms, .int .i64 z1.timer]) := hbq5_1
  have HR5 := Lib.hid hrq5_1
  have HT5 : Hid (Touch (OfAct K) w w5) := hTq5_1
  clear HBC4 HBU4 HBOC4 HBOR4 HBR4 HR4 HT4 htq5_1 hbq5_1 hrq5_1 hTq5_1 hoq5_1C hoq5_1U hoq5_1OC hoq5_1OR
  rw [← q_w5.out]
  clear q_w5
  obtain ⟨y2, hy2⟩ : ∃ q_, Cn.toT ((⟨mo, cr, 1, sq, psq, cc, pn, da⟩ : Cn.S), z1) 3 0 = q_ := ⟨_, rfl⟩
  have HZy2 := Lib.hid hy2
  clear hy2
  have xC0 : w5.cell? ⟨g, 0, none⟩ = some (.int .i64 mo) := HBC5.out.cell 0
  have xC1 : w5.cell? ⟨g, 1, none⟩ = some (.int .i64 cr) := HBC5.out.cell 1
  have xC2 : w5.cell? ⟨g, 2, none⟩ = some (.int .i64 1) := HBC5.out.cell 2
  have xC3 : w5.cell? ⟨g, 3, none⟩ = some (.int .i64 sq) := HBC5.out.cell 3
  have xC4 : w5.cell? ⟨g, 4, none⟩ = some (.int .i64 psq) := HBC5.out.cell 4
  have xC5 : w5.cell? ⟨g, 5, none⟩ = some (.int .i64 cc) := HBC5.out.cell 5
  have xC6 : w5.cell? ⟨g, 6, none⟩ = some (.int .i64 pn) := HBC5.out.cell 6
  have xC7 : w5.cell? ⟨g, 7, none⟩ = some (.string da) := HBC5.out.cell 7
  have xR0 : w5.cell? ⟨g + 1 + 1 + 1 + 1, 0, none⟩ = some (.slice Pz1.A1 z1.sigs.length Pz1.c1) := HBR5.out.cell 0
  have xR1 : w5.cell? ⟨g + 1 + 1 + 1 + 1, 1, none⟩ = some (.slice Pz1.A2 z1.units.length Pz1.c2) := HBR5.out.cell 1
  have xR2 : w5.cell? ⟨g + 1 + 1 + 1 + 1, 2, none⟩ = some (.bool z1.begins) := HBR5.out.cell 2
  have xR3 : w5.cell? ⟨g + 1 + 1 + 1 + 1, 3, none⟩ = some (.bool z1.ends) := HBR5.out.cell 3
  have xR4 : w5.cell? ⟨g + 1 + 1 + 1 + 1, 4, none⟩ = some (.int .i64 z1.ms) := HBR5.out.cell 4
  have xR5 : w5.cell? ⟨g + 1 + 1 + 1 + 1, 5, none⟩ = some (.int .i64 z1.timer) := HBR5.out.cell 5
  have xU0 : w5.cell? ⟨g + 1, 0, none⟩ = some (.int .i64 1) := HBU5.out.cell 0
  have xU1 : w5.cell? ⟨g + 1, 1, none⟩ = some (.int .i64 psq) := HBU5.out.cell 1
  have xU2 : w5.cell? ⟨g + 1, 2, none⟩ = some (.int .i64 pn) := HBU5.out.cell 2
  have xU3 : w5.cell? ⟨g + 1, 3, none⟩ = some (.bool self) := HBU5.out.cell 3
  have xU4 : w5.cell? ⟨g + 1, 4, none⟩ = some (.string d) := HBU5.out.cell 4
  go_wp2_with fail
  refine (rto_q (s := (⟨mo, cr, 1, sq, psq, cc, pn, da⟩ : Cn.S)) (r := z1) HR5.out 3 0 HZy2.out).mono ?_
  rintro e w6 ⟨Py2, rfl, hr6, ht6⟩
  simp only [rcV, rrV]
  have HBC6 := Lib.hid (ht6.keptB HBC5.out HGC.out)
  have HBU6 := Lib.hid (ht6.keptB HBU5.out HGU.out)
  have HBOC6 := Lib.hid (ht6.keptB HBOC5.out HGOC.out)
  have HBOR6 := Lib.hid (ht6.keptB HBOR5.out HGOR.out)
  have HBR6 := Lib.hid (ht6.keptB HBR5.out HGR.out)
  have HR6 := Lib.hid hr6
  have HT6 : Hid (Touch (OfAct K) w w6) := HT5.out.trans (ht6.loose HL.out) (fun _ _ e => e)
  clear xC0 xC1 xC2 xC3 xC4 xC5 xC6 xC7 xR0 xR1 xR2 xR3 xR4 xR5 xU0 xU1 xU2 xU3 xU4
  clear hr6 ht6 HBC5 HBU5 HBOC5 HBOR5 HBR5 HR5 HT5
  have xOC0 : w6.cell? ⟨g + 1 + 1, 0, none⟩ = some (.int .i64 0) := HBOC6.out.cell 0
  have fOC0 := HBOC6.out.frozen 0
  have xOC1 : w6.cell? ⟨g + 1 + 1, 1, none⟩ = some (.int .i64 0) := HBOC6.out.cell 1
  have fOC1 := HBOC6.out.frozen 1
  have xOC2 : w6.cell? ⟨g + 1 + 1, 2, none⟩ = some (.int .i64 0) := HBOC6.out.cell 2
  have fOC2 := HBOC6.out.frozen 2
  have xOC3 : w6.cell? ⟨g + 1 + 1, 3, none⟩ = some (.int .i64 0) := HBOC6.out.cell 3
  have fOC3 := HBOC6.out.frozen 3
  have xOC4 : w6.cell? ⟨g + 1 + 1, 4, none⟩ = some (.int .i64 0) := HBOC6.out.cell 4
  have fOC4 := HBOC6.out.frozen 4
  have xOC5 : w6.cell? ⟨g + 1 + 1, 5, none⟩ = some (.int .i64 0) := HBOC6.out.cell 5
  have fOC5 := HBOC6.out.frozen 5
  have xOC6 : w6.cell? ⟨g + 1 + 1, 6, none⟩ = some (.int .i64 0) := HBOC6.out.cell 6
  have fOC6 := HBOC6.out.frozen 6
  have xOC7 : w6.cell? ⟨g + 1 + 1, 7, none⟩ = some (.string { data := #[] }) := HBOC6.out.cell 7
  have fOC7 := HBOC6.out.frozen 7
  have xOR0 : w6.cell? ⟨g + 1 + 1 + 1, 0, none⟩ = some (.slice none 0 0) := HBOR6.out.cell 0
  have fOR0 := HBOR6.out.frozen 0
  have xOR1 : w6.cell? ⟨g + 1 + 1 + 1, 1, none⟩ = some (.slice none 0 0) := HBOR6.out.cell 1
  have fOR1 := HBOR6.out.frozen 1
  have xOR2 : w6.cell? ⟨g + 1 + 1 + 1, 2, none⟩ = some (.bool false) := HBOR6.out.cell 2
  have fOR2 := HBOR6.out.frozen 2
  have xOR3 : w6.cell? ⟨g + 1 + 1 + 1, 3, none⟩ = some (.bool false) := HBOR6.out.cell 3
  have fOR3 := HBOR6.out.frozen 3
  have xOR4 : w6.cell? ⟨g + 1 + 1 + 1, 4, none⟩ = some (.int .i64 0) := HBOR6.out.cell 4
  have fOR4 := HBOR6.out.frozen 4
  have xOR5 : w6.cell? ⟨g + 1 + 1 + 1, 5, none⟩ = some (.int .i64 0) := HBOR6.out.cell 5
  have fOR5 := HBOR6.out.frozen 5
  go_wp2
  have htq7_1 : Touch (· = g + 1 + 1) w6 ((((((((w6.setCell ⟨g + 1 + 1, 0, none⟩ (.int .i64 y2.1.most)).setCell ⟨g + 1 + 1, 1, none⟩ (.int .i64 y2.1.credit)).setCell ⟨g + 1 + 1, 2, none⟩ (.int .i64 y2.1.state)).setCell ⟨g + 1 + 1, 3, none⟩ (.int .i64 y2.1.sq)).setCell ⟨g + 1 + 1, 4, none⟩ (.int .i64 y2.1.peer)).setCell ⟨g + 1 + 1, 5, none⟩ (.int .i64 y2.1.cc)).setCell ⟨g + 1 + 1, 6, none⟩ (.int .i64 y2.1.ms)).setCell ⟨g + 1 + 1, 7, none⟩ (.string y2.1.data)) := (((((((((Touch.refl _ w6).st (S := (· = g + 1 + 1)) (u := .int .i64 y2.1.most) (by exact rfl)).st (S := (· = g + 1 + 1)) (u := .int .i64 y2.1.credit) (by exact rfl)).st (S := (· = g + 1 + 1)) (u := .int .i64 y2.1.state) (by exact rfl)).st (S := (· = g + 1 + 1)) (u := .int .i64 y2.1.sq) (by exact rfl)).st (S := (· = g + 1 + 1)) (u := .int .i64 y2.1.peer) (by exact rfl)).st (S := (· = g + 1 + 1)) (u := .int .i64 y2.1.cc) (by exact rfl)).st (S := (· = g + 1 + 1)) (u := .int .i64 y2.1.ms) (by exact rfl)).st (S := (· = g + 1 + 1)) (u := .string y2.1.data) (by exact rfl))
  have hbq7_1 : Blk ((((((((w6.setCell ⟨g + 1 + 1, 0, none⟩ (.int .i64 y2.1.most)).setCell ⟨g + 1 + 1, 1, none⟩ (.int .i64 y2.1.credit)).setCell ⟨g + 1 + 1, 2, none⟩ (.int .i64 y2.1.state)).setCell ⟨g + 1 + 1, 3, none⟩ (.int .i64 y2.1.sq)).setCell ⟨g + 1 + 1, 4, none⟩ (.int .i64 y2.1.peer)).setCell ⟨g + 1 + 1, 5, none⟩ (.int .i64 y2.1.cc)).setCell ⟨g + 1 + 1, 6, none⟩ (.int .i64 y2.1.ms)).setCell ⟨g + 1 + 1, 7, none⟩ (.string y2.1.data)) (g + 1 + 1) 59 [.int .i64 y2.1.most, .int .i64 y2.1.credit, .int .i64 y2.1.state, .int .i64 y2.1.sq, .int .i64 y2.1.peer, .int .i64 y2.1.cc, .int .i64 y2.1.ms, .string y2.1.data] := ((((((((HBOC6.out.set 0 (.int .i64 y2.1.most)).set 1 (.int .i64 y2.1.credit)).set 2 (.int .i64 y2.1.state)).set 3 (.int .i64 y2.1.sq)).set 4 (.int .i64 y2.1.peer)).set 5 (.int .i64 y2.1.cc)).set 6 (.int .i64 y2.1.ms)).set 7 (.string y2.1.data))
  have hoq7_1C := htq7_1.blk HBC6.out (by intro e; have e : g = g + 1 + 1 := e; omega)
  have hoq7_1U := htq7_1.blk HBU6.out (by intro e; have e : g + 1 = g + 1 + 1 := e; omega)
  have hoq7_1OR := htq7_1.blk HBOR6.out (by intro e; have e : g + 1 + 1 + 1 = g + 1 + 1 := e; omega)
  have hoq7_1R := htq7_1.blk HBR6.out (by intro e; have e : g + 1 + 1 + 1 + 1 = g + 1 + 1 := e; omega)
  have hrq7_1 := HR6.out.touch htq7_1 (fun k e => by have e : k = g + 1 + 1 := e; rw [e]; exact HGOC.out)
  have hTq7_1 : Touch (OfAct K) w ((((((((w6.setCell ⟨g + 1 + 1, 0, none⟩ (.int .i64 y2.1.most)).setCell ⟨g + 1 + 1, 1, none⟩ (.int .i64 y2.1.credit)).setCell ⟨g + 1 + 1, 2, none⟩ (.int .i64 y2.1.state)).setCell ⟨g + 1 + 1, 3, none⟩ (.int .i64 y2.1.sq)).setCell ⟨g + 1 + 1, 4, none⟩ (.int .i64 y2.1.peer)).setCell ⟨g + 1 + 1, 5, none⟩ (.int .i64 y2.1.cc)).setCell ⟨g + 1 + 1, 6, none⟩ (.int .i64 y2.1.ms)).setCell ⟨g + 1 + 1, 7, none⟩ (.string y2.1.data)) := HT6.out.trans htq7_1 (fun k _ e => by have e : k = g + 1 + 1 := e; intro hk; have := HLIM.out k hk; omega)
  obtain ⟨w7, q0⟩ : ∃ x : World, x = ((((((((((((((w6.setCell ⟨g + 1 + 1, 0, none⟩ (.int .i64 y2.1.most)).setCell ⟨g + 1 + 1, 1, none⟩ (.int .i64 y2.1.credit)).setCell ⟨g + 1 + 1, 2, none⟩ (.int .i64 y2.1.state)).setCell ⟨g + 1 + 1, 3, none⟩ (.int .i64 y2.1.sq)).setCell ⟨g + 1 + 1, 4, none⟩ (.int .i64 y2.1.peer)).setCell ⟨g + 1 + 1, 5, none⟩ (.int .i64 y2.1.cc)).setCell ⟨g + 1 + 1, 6, none⟩ (.int .i64 y2.1.ms)).setCell ⟨g + 1 + 1, 7, none⟩ (.string y2.1.data)).setCell ⟨g + 1 + 1 + 1, 0, none⟩ (.slice Py2.A1 y2.2.sigs.length Py2.c1)).setCell ⟨g + 1 + 1 + 1, 1, none⟩ (.slice Py2.A2 y2.2.units.length Py2.c2)).setCell ⟨g + 1 + 1 + 1, 2, none⟩ (.bool y2.2.begins)).setCell ⟨g + 1 + 1 + 1, 3, none⟩ (.bool y2.2.ends)).setCell ⟨g + 1 + 1 + 1, 4, none⟩ (.int .i64 y2.2.ms)).setCell ⟨g + 1 + 1 + 1, 5, none⟩ (.int .i64 y2.2.timer)) := ⟨_, rfl⟩
  have q_w7 := Lib.hid q0
  clear q0
  have htq7_2 : Touch (· = g + 1 + 1 + 1) ((((((((w6.setCell ⟨g + 1 + 1, 0, none⟩ (.int .i64 y2.1.most)).setCell ⟨g + 1 + 1, 1, none⟩ (.int .i64 y2.1.credit)).setCell ⟨g + 1 + 1, 2, none⟩ (.int .i64 y2.1.state)).setCell ⟨g + 1 + 1, 3, none⟩ (.int .i64 y2.1.sq)).setCell ⟨g + 1 + 1, 4, none⟩ (.int .i64 y2.1.peer)).setCell ⟨g + 1 + 1, 5, none⟩ (.int .i64 y2.1.cc)).setCell ⟨g + 1 + 1, 6, none⟩ (.int .i64 y2.1.ms)).setCell ⟨g + 1 + 1, 7, none⟩ (.string y2.1.data)) w7 := by rw [q_w7.out]; exact (((((((Touch.refl _ ((((((((w6.setCell ⟨g + 1 + 1, 0, none⟩ (.int .i64 y2.1.most)).setCell ⟨g + 1 + 1, 1, none⟩ (.int .i64 y2.1.credit)).setCell ⟨g + 1 + 1, 2, none⟩ (.int .i64 y2.1.state)).setCell ⟨g + 1 + 1, 3, none⟩ (.int .i64 y2.1.sq)).setCell ⟨g + 1 + 1, 4, none⟩ (.int .i64 y2.1.peer)).setCell ⟨g + 1 + 1, 5, none⟩ (.int .i64 y2.1.cc)).setCell ⟨g + 1 + 1, 6, none⟩ (.int .i64 y2.1.ms)).setCell ⟨g + 1 + 1, 7, none⟩ (.string y2.1.data))).st (S := (· = g + 1 + 1 + 1)) (u := .slice Py2.A1 y2.2.sigs.length Py2.c1) (by exact rfl)).st (S := (· = g + 1 + 1 + 1)) (u := .slice Py2.A2 y2.2.units.length Py2.c2) (by exact rfl)).st (S := (· = g + 1 + 1 + 1)) (u := .bool y2.2.begins) (by exact rfl)).st (S := (· = g + 1 + 1 + 1)) (u := .bool y2.2.ends) (by exact rfl)).st (S := (· = g + 1 + 1 + 1)) (u := .int .i64 y2.2.ms) (by exact rfl)).st (S := (· = g + 1 + 1 + 1)) (u := .int .i64 y2.2.timer) (by exact rfl))
  have hbq7_2 : Blk w7 (g + 1 + 1 + 1) 90 [.slice Py2.A1 y2.2.sigs.length Py2.c1, .slice Py2.A2 y2.2.units.length Py2.c2, .bool y2.2.begins, .bool y2.2.ends, .int .i64 y2.2.ms, .int .i64 y2.2.timer] := by rw [q_w7.out]; exact ((((((hoq7_1OR.set 0 (.slice Py2.A1 y2.2.sigs.length Py2.c1)).set 1 (.slice Py2.A2 y2.2.units.length Py2.c2)).set 2 (.bool y2.2.begins)).set 3 (.bool y2.2.ends)).set 4 (.int .i64 y2.2.ms)).set 5 (.int .i64 y2.2.timer))
  have hoq7_2C := htq7_2.blk hoq7_1C (by intro e; have e : g = g + 1 + 1 + 1 := e; omega)
  have hoq7_2U := htq7_2.blk hoq7_1U (by intro e; have e : g + 1 = g + 1 + 1 + 1 := e; omega)
  have hoq7_2OC := htq7_2.blk hbq7_1 (by intro e; have e : g + 1 + 1 = g + 1 + 1 + 1 := e; omega)
  have hoq7_2R := htq7_2.blk hoq7_1R (by intro e; have e : g + 1 + 1 + 1 + 1 = g + 1 + 1 + 1 := e; omega)
  have hrq7_2 := hrq7_1.touch htq7_2 (fun k e => by have e : k = g + 1 + 1 + 1 := e; rw [e]; exact HGOR.out)
  have hTq7_2 : Touch (OfAct K) w w7 := hTq7_1.trans htq7_2 (fun k _ e => by have e : k = g + 1 + 1 + 1 := e; intro hk; have := HLIM.out k hk; omega)
  clear xOC0 fOC0 xOC1 fOC1 xOC2 fOC2 xOC3 fOC3 xOC4 fOC4 xOC5 fOC5 xOC6 fOC6 xOC7 fOC7 xOR0 fOR0 xOR1 fOR1 xOR2 fOR2 xOR3 fOR3 xOR4 fOR4 xOR5 fOR5
  have HBC7 : Hid (Blk w7 (g) 59 [.int .i64 mo, .int .i64 cr, .int .i64 1, .int .i64 sq, .int .i64 psq, .int .i64 cc, .int .i64 pn, .string da]) := hoq7_2C
  have HBU7 : Hid (Blk w7 (g + 1) 110 [.int .i64 1, .int .i64 psq, .int .i64 pn, .bool self, .string d]) := hoq7_2U
  have HBOC7 : Hid (Blk w7 (g + 1 + 1) 59 [.int .i64 y2.1.most, .int .i64 y2.1.credit, .int .i64 y2.1.state, .int .i64 y2.1.sq, .int .i64 y2.1.peer, .int .i64 y2.1.cc, .int .i64 y2.1.ms, .string y2.1.data]) := hoq7_2OC
  have HBOR7 : Hid (Blk w7 (g + 1 + 1 + 1) 90 [.slice Py2.A1 y2.2.sigs.length Py2.c1, .slice Py2.A2 y2.2.units.length Py2.c2, .bool y2.2.begins, .bool y2.2.ends, .int .i64 y2.2.ms, .int .i64 y2.2.timer]) := hbq7_2
  have HBR7 : Hid (Blk w7 (g + 1 + 1 + 1 + 1) 90 [.slice Pz1.A1 z1.sigs.length Pz1.c1, .slice Pz1.A2 z1.units.length Pz1.c2, .bool z1.begins, .bool z1.ends, .int .i64 z1.ms, .int .i64 z1.timer]) := hoq7_2R
  have HR7 := Lib.hid hrq7_2
  have HT7 : Hid (Touch (OfAct K) w w7) := hTq7_2
  clear HBC6 HBU6 HBOC6 HBOR6 HBR6 HR6 HT6 htq7_1 hbq7_1 hrq7_1 hTq7_1 hoq7_1C hoq7_1U hoq7_1OR hoq7_1R htq7_2 hbq7_2 hrq7_2 hTq7_2 hoq7_2C hoq7_2U hoq7_2OC hoq7_2R
  rw [← q_w7.out]
  clear q_w7
  have HAE : Hid (Cn.hear 1 lt (⟨mo, cr, 1, sq, pe, cc, ms, da⟩, Cn.r0) ⟨1, psq, pn, 0, 0, none, 0, 0, self, d⟩ = y2) := by unfold Hid; rw [← HZy2.out, ← HZz1.out]; (unfold Cn.hear Cn.handle; (simp only [↓reduceIte, Int.reduceEq, HNO.out] <;> rfl))
  have HX : Hid (∀ e, e = .returned (.tuple #[.agg #[.int .i64 y2.1.most, .int .i64 y2.1.credit, .int .i64 y2.1.state, .int .i64 y2.1.sq, .int .i64 y2.1.peer, .int .i64 y2.1.cc, .int .i64 y2.1.ms, .string y2.1.data], .agg #[.slice Py2.A1 y2.2.sigs.length Py2.c1, .slice Py2.A2 y2.2.units.length Py2.c2, .bool y2.2.begins, .bool y2.2.ends, .int .i64 y2.2.ms, .int .i64 y2.2.timer]]) → RPost K (0 + 9) (Cn.hear 1 lt (⟨mo, cr, 1, sq, pe, cc, ms, da⟩, Cn.r0) ⟨1, psq, pn, 0, 0, none, 0, 0, self, d⟩) w e w7) := fun e he => ⟨Py2, he.trans (by (rw [HAE.out]; rfl)), by (refine ((HR7.out.less HL.out).wide (by omega)).eq ?_ ?_ <;> (rw [HAE.out])), HT7.out⟩
  have zOC0 : w7.cell? ⟨g + 1 + 1, 0, none⟩ = some (.int .i64 y2.1.most) := HBOC7.out.cell 0
  have zOC1 : w7.cell? ⟨g + 1 + 1, 1, none⟩ = some (.int .i64 y2.1.credit) := HBOC7.out.cell 1
  have zOC2 : w7.cell? ⟨g + 1 + 1, 2, none⟩ = some (.int .i64 y2.1.state) := HBOC7.out.cell 2
  have zOC3 : w7.cell? ⟨g + 1 + 1, 3, none⟩ = some (.int .i64 y2.1.sq) := HBOC7.out.cell 3
  have zOC4 : w7.cell? ⟨g + 1 + 1, 4, none⟩ = some (.int .i64 y2.1.peer) := HBOC7.out.cell 4
  have zOC5 : w7.cell? ⟨g + 1 + 1, 5, none⟩ = some (.int .i64 y2.1.cc) := HBOC7.out.cell 5
  have zOC6 : w7.cell? ⟨g + 1 + 1, 6, none⟩ = some (.int .i64 y2.1.ms) := HBOC7.out.cell 6
  have zOC7 : w7.cell? ⟨g + 1 + 1, 7, none⟩ = some (.string y2.1.data) := HBOC7.out.cell 7
  have zOR0 : w7.cell? ⟨g + 1 + 1 + 1, 0, none⟩ = some (.slice Py2.A1 y2.2.sigs.length Py2.c1) := HBOR7.out.cell 0
  have zOR1 : w7.cell? ⟨g + 1 + 1 + 1, 1, none⟩ = some (.slice Py2.A2 y2.2.units.length Py2.c2) := HBOR7.out.cell 1
  have zOR2 : w7.cell? ⟨g + 1 + 1 + 1, 2, none⟩ = some (.bool y2.2.begins) := HBOR7.out.cell 2
  have zOR3 : w7.cell? ⟨g + 1 + 1 + 1, 3, none⟩ = some (.bool y2.2.ends) := HBOR7.out.cell 3
  have zOR4 : w7.cell? ⟨g + 1 + 1 + 1, 4, none⟩ = some (.int .i64 y2.2.ms) := HBOR7.out.cell 4
  have zOR5 : w7.cell? ⟨g + 1 + 1 + 1, 5, none⟩ = some (.int .i64 y2.2.timer) := HBOR7.out.cell 5
  go_wp2
  exact bodyPost_ret (v := _) (by simp [results, Try.results62, go_sem, zOC0, zOC1, zOC2, zOC3, zOC4, zOC5, zOC6, zOC7, zOR0, zOR1, zOR2, zOR3, zOR4, zOR5]) rfl (HX.out _ rfl)

set_option maxHeartbeats 4000000 in
set_option maxRecDepth 100000 in
theorem rrec_5_pn {K : Nat → Prop} {w : World} (hlim : ∀ k, K k → k < w.heap.size) (mo cr st sq pe cc ms psq pn lt : Int) (da : ByteArray) (self : Bool) (d : ByteArray) (hq : Ru.refOf st 5 = 1) (hg : 7 ≤ st ∧ st ≤ 10) (ho : ¬ psq = pe) :
    Calls Try.prog 62 #[rcV ⟨mo, cr, st, sq, pe, cc, ms, da⟩, ruV ⟨5, psq, pn, 0, 0, none, 0, 0, self, d⟩] w (RPost K 9 (Cn.hear 1 lt (⟨mo, cr, st, sq, pe, cc, ms, da⟩, Cn.r0) ⟨5, psq, pn, 0, 0, none, 0, 0, self, d⟩) w) := by
  unfold rcV ruV
  dsimp only
  have h := RIn.nil (w := w) hlim
  obtain ⟨w1, q0⟩ : ∃ x : World, x = (((((w.alloc (.cells #[.int .i64 mo, .int .i64 cr, .int .i64 st, .int .i64 sq, .int .i64 pe, .int .i64 cc, .int .i64 ms, .string da] 59)).alloc (.cells #[.int .i64 5, .int .i64 psq, .int .i64 pn, .bool self, .string d] 110)).alloc (.cells #[.int .i64 0, .int .i64 0, .int .i64 0, .int .i64 0, .int .i64 0, .int .i64 0, .int .i64 0, .string { data := #[] }] 59)).alloc (.cells #[.slice none 0 0, .slice none 0 0, .bool false, .bool false, .int .i64 0, .int .i64 0] 90)).alloc (.cells #[.slice none 0 0, .slice none 0 0, .bool false, .bool false, .int .i64 0, .int .i64 0] 90)) := ⟨_, rfl⟩
  have q_w1 := Lib.hid q0
  clear q0
  have HF : Hid (Fresh w w1) := by rw [q_w1.out]; exact (((((Touch.refl _ w).alloc _).alloc _).alloc _).alloc _).alloc _
  have HBC1 : Hid (Blk w1 (w.heap.size) 59 [.int .i64 mo, .int .i64 cr, .int .i64 st, .int .i64 sq, .int .i64 pe, .int .i64 cc, .int .i64 ms, .string da]) := by
    rw [q_w1.out]
    have := ((((Blk.new w 59 [.int .i64 mo, .int .i64 cr, .int .i64 st, .int .i64 sq, .int .i64 pe, .int .i64 cc, .int .i64 ms, .string da]).alloc (.cells #[.int .i64 5, .int .i64 psq, .int .i64 pn, .bool self, .string d] 110)).alloc (.cells #[.int .i64 0, .int .i64 0, .int .i64 0, .int .i64 0, .int .i64 0, .int .i64 0, .int .i64 0, .string { data := #[] }] 59)).alloc (.cells #[.slice none 0 0, .slice none 0 0, .bool false, .bool false, .int .i64 0, .int .i64 0] 90)).alloc (.cells #[.slice none 0 0, .slice none 0 0, .bool false, .bool false, .int .i64 0, .int .i64 0] 90)
    exact this
  have HGC : Hid (Kept K w w1 (w.heap.size)) := by rw [q_w1.out]; exact .inr ⟨by omega, by simp; try omega⟩
  have HBU1 : Hid (Blk w1 (w.heap.size + 1) 110 [.int .i64 5, .int .i64 psq, .int .i64 pn, .bool self, .string d]) := by
    rw [q_w1.out]
    have := (((Blk.new (w.alloc (.cells #[.int .i64 mo, .int .i64 cr, .int .i64 st, .int .i64 sq, .int .i64 pe, .int .i64 cc, .int .i64 ms, .string da] 59)) 110 [.int .i64 5, .int .i64 psq, .int .i64 pn, .bool self, .string d]).alloc (.cells #[.int .i64 0, .int .i64 0, .int .i64 0, .int .i64 0, .int .i64 0, .int .i64 0, .int .i64 0, .string { data := #[] }] 59)).alloc (.cells #[.slice none 0 0, .slice none 0 0, .bool false, .bool false, .int .i64 0, .int .i64 0] 90)).alloc (.cells #[.slice none 0 0, .slice none 0 0, .bool false, .bool false, .int .i64 0, .int .i64 0] 90)
    rwa [show (w.alloc (.cells #[.int .i64 mo, .int .i64 cr, .int .i64 st, .int .i64 sq, .int .i64 pe, .int .i64 cc, .int .i64 ms, .string da] 59)).heap.size = w.heap.size + 1 by simp] at this
  have HGU : Hid (Kept K w w1 (w.heap.size + 1)) := by rw [q_w1.out]; exact .inr ⟨by omega, by simp; try omega⟩
  have HBOC1 : Hid (Blk w1 (w.heap.size + 1 + 1) 59 [.int .i64 0, .int .i64 0, .int .i64 0, .int .i64 0, .int .i64 0, .int .i64 0, .int .i64 0, .string { data := #[] }]) := by
    rw [q_w1.out]
    have := ((Blk.new ((w.alloc (.cells #[.int .i64 mo, .int .i64 cr, .int .i64 st, .int .i64 sq, .int .i64 pe, .int .i64 cc, .int .i64 ms, .string da] 59)).alloc (.cells #[.int .i64 5, .int .i64 psq, .int .i64 pn, .bool self, .string d] 110)) 59 [.int .i64 0, .int .i64 0, .int .i64 0, .int .i64 0, .int .i64 0, .int .i64 0, .int .i64 0, .string { data := #[] }]).alloc (.cells #[.slice none 0 0, .slice none 0 0, .bool false, .bool false, .int .i64 0, .int .i64 0] 90)).alloc (.cells #[.slice none 0 0, .slice none 0 0, .bool false, .bool false, .int .i64 0, .int .i64 0] 90)
    rwa [show ((w.alloc (.cells #[.int .i64 mo, .int .i64 cr, .int .i64 st, .int .i64 sq, .int .i64 pe, .int .i64 cc, .int .i64 ms, .string da] 59)).alloc (.cells #[.int .i64 5, .int .i64 psq, .int .i64 pn, .bool self, .string d] 110)).heap.size = w.heap.size + 1 + 1 by simp] at this
  have HGOC : Hid (Kept K w w1 (w.heap.size + 1 + 1)) := by rw [q_w1.out]; exact .inr ⟨by omega, by simp; try omega⟩
  have HBOR1 : Hid (Blk w1 (w.heap.size + 1 + 1 + 1) 90 [.slice none 0 0, .slice none 0 0, .bool false, .bool false, .int .i64 0, .int .i64 0]) := by
    rw [q_w1.out]
    have := (Blk.new (((w.alloc (.cells #[.int .i64 mo, .int .i64 cr, .int .i64 st, .int .i64 sq, .int .i64 pe, .int .i64 cc, .int .i64 ms, .string da] 59)).alloc (.cells #[.int .i64 5, .int .i64 psq, .int .i64 pn, .bool self, .string d] 110)).alloc (.cells #[.int .i64 0, .int .i64 0, .int .i64 0, .int .i64 0, .int .i64 0, .int .i64 0, .int .i64 0, .string { data := #[] }] 59)) 90 [.slice none 0 0, .slice none 0 0, .bool false, .bool false, .int .i64 0, .int .i64 0]).alloc (.cells #[.slice none 0 0, .slice none 0 0, .bool false, .bool false, .int .i64 0, .int .i64 0] 90)
    rwa [show (((w.alloc (.cells #[.int .i64 mo, .int .i64 cr, .int .i64 st, .int .i64 sq, .int .i64 pe, .int .i64 cc, .int .i64 ms, .string da] 59)).alloc (.cells #[.int .i64 5, .int .i64 psq, .int .i64 pn, .bool self, .string d] 110)).alloc (.cells #[.int .i64 0, .int .i64 0, .int .i64 0, .int .i64 0, .int .i64 0, .int .i64 0, .int .i64 0, .string { data := #[] }] 59)).heap.size = w.heap.size + 1 + 1 + 1 by simp] at this
  have HGOR : Hid (Kept K w w1 (w.heap.size + 1 + 1 + 1)) := by rw [q_w1.out]; exact .inr ⟨by omega, by simp; try omega⟩
  have HBR1 : Hid (Blk w1 (w.heap.size + 1 + 1 + 1 + 1) 90 [.slice none 0 0, .slice none 0 0, .bool false, .bool false, .int .i64 0, .int .i64 0]) := by
    rw [q_w1.out]
    have := Blk.new ((((w.alloc (.cells #[.int .i64 mo, .int .i64 cr, .int .i64 st, .int .i64 sq, .int .i64 pe, .int .i64 cc, .int .i64 ms, .string da] 59)).alloc (.cells #[.int .i64 5, .int .i64 psq, .int .i64 pn, .bool self, .string d] 110)).alloc (.cells #[.int .i64 0, .int .i64 0, .int .i64 0, .int .i64 0, .int .i64 0, .int .i64 0, .int .i64 0, .string { data := #[] }] 59)).alloc (.cells #[.slice none 0 0, .slice none 0 0, .bool false, .bool false, .int .i64 0, .int .i64 0] 90)) 90 [.slice none 0 0, .slice none 0 0, .bool false, .bool false, .int .i64 0, .int .i64 0]
    rwa [show ((((w.alloc (.cells #[.int .i64 mo, .int .i64 cr, .int .i64 st, .int .i64 sq, .int .i64 pe, .int .i64 cc, .int .i64 ms, .string da] 59)).alloc (.cells #[.int .i64 5, .int .i64 psq, .int .i64 pn, .bool self, .string d] 110)).alloc (.cells #[.int .i64 0, .int .i64 0, .int .i64 0, .int .i64 0, .int .i64 0, .int .i64 0, .int .i64 0, .string { data := #[] }] 59)).alloc (.cells #[.slice none 0 0, .slice none 0 0, .bool false, .bool false, .int .i64 0, .int .i64 0] 90)).heap.size = w.heap.size + 1 + 1 + 1 + 1 by simp] at this
  have HGR : Hid (Kept K w w1 (w.heap.size + 1 + 1 + 1 + 1)) := by rw [q_w1.out]; exact .inr ⟨by omega, by simp; try omega⟩
  have HL : Hid (∀ k, K k → Kept K w w1 k) := by rw [q_w1.out]; exact fun k e => .inl e
  have HLIM : Hid (∀ k, K k → k < w.heap.size) := h.lim
  have HR1 := Lib.hid (h.keep HF.out)
  have HT1 : Hid (Touch (OfAct K) w w1) := HF.out.mono (fun _ _ e => e.elim)
  clear h hlim HF
  go_enter Try.func62, Try.ntmps62
  go_upto_region 2 with (fail)
  rw [← q_w1.out]
  clear q_w1
  generalize Kept K w w1 = K1 at *
  generalize w.heap.size = g at *
  have HOF := Lib.hid (fun W => refOf_any st 5 W)
  have HQQ := Lib.hid hq
  clear hq
  rw [HQQ.out] at HOF
  have xC0 : w1.cell? ⟨g, 0, none⟩ = some (.int .i64 mo) := HBC1.out.cell 0
  have xC1 : w1.cell? ⟨g, 1, none⟩ = some (.int .i64 cr) := HBC1.out.cell 1
  have xC2 : w1.cell? ⟨g, 2, none⟩ = some (.int .i64 st) := HBC1.out.cell 2
  have xC3 : w1.cell? ⟨g, 3, none⟩ = some (.int .i64 sq) := HBC1.out.cell 3
  have xC4 : w1.cell? ⟨g, 4, none⟩ = some (.int .i64 pe) := HBC1.out.cell 4
  have xC5 : w1.cell? ⟨g, 5, none⟩ = some (.int .i64 cc) := HBC1.out.cell 5
  have xC6 : w1.cell? ⟨g, 6, none⟩ = some (.int .i64 ms) := HBC1.out.cell 6
  have xC7 : w1.cell? ⟨g, 7, none⟩ = some (.string da) := HBC1.out.cell 7
  have xU0 : w1.cell? ⟨g + 1, 0, none⟩ = some (.int .i64 5) := HBU1.out.cell 0
  have xU1 : w1.cell? ⟨g + 1, 1, none⟩ = some (.int .i64 psq) := HBU1.out.cell 1
  have xU2 : w1.cell? ⟨g + 1, 2, none⟩ = some (.int .i64 pn) := HBU1.out.cell 2
  have xU3 : w1.cell? ⟨g + 1, 3, none⟩ = some (.bool self) := HBU1.out.cell 3
  have xU4 : w1.cell? ⟨g + 1, 4, none⟩ = some (.string d) := HBU1.out.cell 4
  go_wp2_with fail
  refine (HOF.out _).mono ?_
  rintro e w2 ⟨rfl, f2⟩
  have HBC2 := Lib.hid (f2.blk HBC1.out (fun e => e))
  have HBU2 := Lib.hid (f2.blk HBU1.out (fun e => e))
  have HBOC2 := Lib.hid (f2.blk HBOC1.out (fun e => e))
  have HBOR2 := Lib.hid (f2.blk HBOR1.out (fun e => e))
  have HBR2 := Lib.hid (f2.blk HBR1.out (fun e => e))
  have HR2 := Lib.hid (HR1.out.old f2)
  have HT2 : Hid (Touch (OfAct K) w w2) := HT1.out.trans f2 (fun _ _ e => e.elim)
  clear xC0 xC1 xC2 xC3 xC4 xC5 xC6 xC7 xU0 xU1 xU2 xU3 xU4
  clear f2 HBC1 HBU1 HBOC1 HBOR1 HBR1 HR1 HT1
  have HG := Lib.hid hg
  have g1 : (st == 1) = false := by simp; omega
  have g2 : (st == 2) = false := by simp; omega
  have g3 : (st == 3) = false := by simp; omega
  have g4 : (st == 4) = false := by simp; omega
  have g5 : (st == 5) = false := by simp; omega
  have g6 : (st == 6) = false := by simp; omega
  have gd : decide (7 ≤ st) = true := decide_eq_true hg.1
  have gn : (st != 1) = true := by simp; omega
  clear hg
  have HNO := Lib.hid ho
  have bo : (psq == pe) = false := by simpa using ho
  clear ho
  have xC0 : w2.cell? ⟨g, 0, none⟩ = some (.int .i64 mo) := HBC2.out.cell 0
  have fC0 := HBC2.out.frozen 0
  have xC1 : w2.cell? ⟨g, 1, none⟩ = some (.int .i64 cr) := HBC2.out.cell 1
  have fC1 := HBC2.out.frozen 1
  have xC2 : w2.cell? ⟨g, 2, none⟩ = some (.int .i64 st) := HBC2.out.cell 2
  have fC2 := HBC2.out.frozen 2
  have xC3 : w2.cell? ⟨g, 3, none⟩ = some (.int .i64 sq) := HBC2.out.cell 3
  have fC3 := HBC2.out.frozen 3
  have xC4 : w2.cell? ⟨g, 4, none⟩ = some (.int .i64 pe) := HBC2.out.cell 4
  have fC4 := HBC2.out.frozen 4
  have xC5 : w2.cell? ⟨g, 5, none⟩ = some (.int .i64 cc) := HBC2.out.cell 5
  have fC5 := HBC2.out.frozen 5
  have xC6 : w2.cell? ⟨g, 6, none⟩ = some (.int .i64 ms) := HBC2.out.cell 6
  have fC6 := HBC2.out.frozen 6
  have xC7 : w2.cell? ⟨g, 7, none⟩ = some (.string da) := HBC2.out.cell 7
  have fC7 := HBC2.out.frozen 7
  have xU0 : w2.cell? ⟨g + 1, 0, none⟩ = some (.int .i64 5) := HBU2.out.cell 0
  have xU1 : w2.cell? ⟨g + 1, 1, none⟩ = some (.int .i64 psq) := HBU2.out.cell 1
  have xU2 : w2.cell? ⟨g + 1, 2, none⟩ = some (.int .i64 pn) := HBU2.out.cell 2
  have xU3 : w2.cell? ⟨g + 1, 3, none⟩ = some (.bool self) := HBU2.out.cell 3
  have xU4 : w2.cell? ⟨g + 1, 4, none⟩ = some (.string d) := HBU2.out.cell 4
  have xR0 : w2.cell? ⟨g + 1 + 1 + 1 + 1, 0, none⟩ = some (.slice none 0 0) := HBR2.out.cell 0
  have xR1 : w2.cell? ⟨g + 1 + 1 + 1 + 1, 1, none⟩ = some (.slice none 0 0) := HBR2.out.cell 1
  have xR2 : w2.cell? ⟨g + 1 + 1 + 1 + 1, 2, none⟩ = some (.bool false) := HBR2.out.cell 2
  have xR3 : w2.cell? ⟨g + 1 + 1 + 1 + 1, 3, none⟩ = some (.bool false) := HBR2.out.cell 3
  have xR4 : w2.cell? ⟨g + 1 + 1 + 1 + 1, 4, none⟩ = some (.int .i64 0) := HBR2.out.cell 4
  have xR5 : w2.cell? ⟨g + 1 + 1 + 1 + 1, 5, none⟩ = some (.int .i64 0) := HBR2.out.cell 5
  go_upto_region 18 with (fail)
  have htq3_1 : Touch (· = g) w2 ((w2.setCell ⟨g, 4, none⟩ (.int .i64 psq)).setCell ⟨g, 6, none⟩ (.int .i64 pn)) := (((Touch.refl _ w2).st (S := (· = g)) (u := .int .i64 psq) (by exact rfl)).st (S := (· = g)) (u := .int .i64 pn) (by exact rfl))
  have hbq3_1 : Blk ((w2.setCell ⟨g, 4, none⟩ (.int .i64 psq)).setCell ⟨g, 6, none⟩ (.int .i64 pn)) (g) 59 [.int .i64 mo, .int .i64 cr, .int .i64 st, .int .i64 sq, .int .i64 psq, .int .i64 cc, .int .i64 pn, .string da] := ((HBC2.out.set 4 (.int .i64 psq)).set 6 (.int .i64 pn))
  have hoq3_1U := htq3_1.blk HBU2.out (by intro e; have e : g + 1 = g := e; omega)
  have hoq3_1OC := htq3_1.blk HBOC2.out (by intro e; have e : g + 1 + 1 = g := e; omega)
  have hoq3_1OR := htq3_1.blk HBOR2.out (by intro e; have e : g + 1 + 1 + 1 = g := e; omega)
  have hoq3_1R := htq3_1.blk HBR2.out (by intro e; have e : g + 1 + 1 + 1 + 1 = g := e; omega)
  have hrq3_1 := HR2.out.touch htq3_1 (fun k e => by have e : k = g := e; rw [e]; exact HGC.out)
  have hTq3_1 : Touch (OfAct K) w ((w2.setCell ⟨g, 4, none⟩ (.int .i64 psq)).setCell ⟨g, 6, none⟩ (.int .i64 pn)) := HT2.out.trans htq3_1 (fun k _ e => by have e : k = g := e; intro hk; have := HLIM.out k hk; omega)
  clear xC0 fC0 xC1 fC1 xC2 fC2 xC3 fC3 xC4 fC4 xC5 fC5 xC6 fC6 xC7 fC7 xU0 xU1 xU2 xU3 xU4 xR0 xR1 xR2 xR3 xR4 xR5
  have HBC3 : Hid (Blk ((w2.setCell ⟨g, 4, none⟩ (.int .i64 psq)).setCell ⟨g, 6, none⟩ (.int .i64 pn)) (g) 59 [.int .i64 mo, .int .i64 cr, .int .i64 st, .int .i64 sq, .int .i64 psq, .int .i64 cc, .int .i64 pn, .string da]) := hbq3_1
  have HBU3 : Hid (Blk ((w2.setCell ⟨g, 4, none⟩ (.int .i64 psq)).setCell ⟨g, 6, none⟩ (.int .i64 pn)) (g + 1) 110 [.int .i64 5, .int .i64 psq, .int .i64 pn, .bool self, .string d]) := hoq3_1U
  have HBOC3 : Hid (Blk ((w2.setCell ⟨g, 4, none⟩ (.int .i64 psq)).setCell ⟨g, 6, none⟩ (.int .i64 pn)) (g + 1 + 1) 59 [.int .i64 0, .int .i64 0, .int .i64 0, .int .i64 0, .int .i64 0, .int .i64 0, .int .i64 0, .string { data := #[] }]) := hoq3_1OC
  have HBOR3 : Hid (Blk ((w2.setCell ⟨g, 4, none⟩ (.int .i64 psq)).setCell ⟨g, 6, none⟩ (.int .i64 pn)) (g + 1 + 1 + 1) 90 [.slice none 0 0, .slice none 0 0, .bool false, .bool false, .int .i64 0, .int .i64 0]) := hoq3_1OR
  have HBR3 : Hid (Blk ((w2.setCell ⟨g, 4, none⟩ (.int .i64 psq)).setCell ⟨g, 6, none⟩ (.int .i64 pn)) (g + 1 + 1 + 1 + 1) 90 [.slice none 0 0, .slice none 0 0, .bool false, .bool false, .int .i64 0, .int .i64 0]) := hoq3_1R
  have HR3 := Lib.hid hrq3_1
  have HT3 : Hid (Touch (OfAct K) w ((w2.setCell ⟨g, 4, none⟩ (.int .i64 psq)).setCell ⟨g, 6, none⟩ (.int .i64 pn))) := hTq3_1
  clear HBC2 HBU2 HBOC2 HBOR2 HBR2 HR2 HT2 htq3_1 hbq3_1 hrq3_1 hTq3_1 hoq3_1U hoq3_1OC hoq3_1OR hoq3_1R
  generalize ((w2.setCell ⟨g, 4, none⟩ (.int .i64 psq)).setCell ⟨g, 6, none⟩ (.int .i64 pn)) = w3 at *
  obtain ⟨z1, hz1⟩ : ∃ q_, { Cn.r0 with sigs := Cn.r0.sigs ++ [Cn.sig 5 false d] } = q_ := ⟨_, rfl⟩
  have HZz1 := Lib.hid hz1
  clear hz1
  obtain ⟨y2, hy2⟩ : ∃ q_, Cn.toT ((⟨mo, cr, st, sq, psq, cc, pn, da⟩ : Cn.S), z1) 6 2 = q_ := ⟨_, rfl⟩
  have HZy2 := Lib.hid hy2
  clear hy2
  have xC0 : w3.cell? ⟨g, 0, none⟩ = some (.int .i64 mo) := HBC3.out.cell 0
  have xC1 : w3.cell? ⟨g, 1, none⟩ = some (.int .i64 cr) := HBC3.out.cell 1
  have xC2 : w3.cell? ⟨g, 2, none⟩ = some (.int .i64 st) := HBC3.out.cell 2
  have xC3 : w3.cell? ⟨g, 3, none⟩ = some (.int .i64 sq) := HBC3.out.cell 3
  have xC4 : w3.cell? ⟨g, 4, none⟩ = some (.int .i64 psq) := HBC3.out.cell 4
  have xC5 : w3.cell? ⟨g, 5, none⟩ = some (.int .i64 cc) := HBC3.out.cell 5
  have xC6 : w3.cell? ⟨g, 6, none⟩ = some (.int .i64 pn) := HBC3.out.cell 6
  have xC7 : w3.cell? ⟨g, 7, none⟩ = some (.string da) := HBC3.out.cell 7
  have xR0 : w3.cell? ⟨g + 1 + 1 + 1 + 1, 0, none⟩ = some (.slice none 0 0) := HBR3.out.cell 0
  have xR1 : w3.cell? ⟨g + 1 + 1 + 1 + 1, 1, none⟩ = some (.slice none 0 0) := HBR3.out.cell 1
  have xR2 : w3.cell? ⟨g + 1 + 1 + 1 + 1, 2, none⟩ = some (.bool false) := HBR3.out.cell 2
  have xR3 : w3.cell? ⟨g + 1 + 1 + 1 + 1, 3, none⟩ = some (.bool false) := HBR3.out.cell 3
  have xR4 : w3.cell? ⟨g + 1 + 1 + 1 + 1, 4, none⟩ = some (.int .i64 0) := HBR3.out.cell 4
  have xR5 : w3.cell? ⟨g + 1 + 1 + 1 + 1, 5, none⟩ = some (.int .i64 0) := HBR3.out.cell 5
  have xU0 : w3.cell? ⟨g + 1, 0, none⟩ = some (.int .i64 5) := HBU3.out.cell 0
  have xU1 : w3.cell? ⟨g + 1, 1, none⟩ = some (.int .i64 psq) := HBU3.out.cell 1
  have xU2 : w3.cell? ⟨g + 1, 2, none⟩ = some (.int .i64 pn) := HBU3.out.cell 2
  have xU3 : w3.cell? ⟨g + 1, 3, none⟩ = some (.bool self) := HBU3.out.cell 3
  have xU4 : w3.cell? ⟨g + 1, 4, none⟩ = some (.string d) := HBU3.out.cell 4
  go_wp2
  go_region_law (first
    | (go_simp
       go_at_call 72
       refine (rtell_q (w := w3.drew) (r := Cn.r0) (HR3.out.old (Touch.refl _ w3).drew) (by omega) 5 false d HZz1.out).mono ?_
       rintro e w4 ⟨Pz1, rfl, hr4, ht4⟩
       simp only [rcV, rrV]
       have HBC4 := Lib.hid (ht4.keptB (Blk.drew HBC3.out) HGC.out)
       have HBU4 := Lib.hid (ht4.keptB (Blk.drew HBU3.out) HGU.out)
       have HBOC4 := Lib.hid (ht4.keptB (Blk.drew HBOC3.out) HGOC.out)
       have HBOR4 := Lib.hid (ht4.keptB (Blk.drew HBOR3.out) HGOR.out)
       have HBR4 := Lib.hid (ht4.keptB (Blk.drew HBR3.out) HGR.out)
       have HR4 := Lib.hid hr4
       have HT4 : Hid (Touch (OfAct K) w w4) := HT3.out.drew.trans (ht4.loose HL.out) (fun _ _ e => e)
       clear hr4 ht4
       have yxC0 : w4.cell? ⟨g, 0, none⟩ = some (.int .i64 mo) := HBC4.out.cell 0
       have yxC1 : w4.cell? ⟨g, 1, none⟩ = some (.int .i64 cr) := HBC4.out.cell 1
       have yxC2 : w4.cell? ⟨g, 2, none⟩ = some (.int .i64 st) := HBC4.out.cell 2
       have yxC3 : w4.cell? ⟨g, 3, none⟩ = some (.int .i64 sq) := HBC4.out.cell 3
       have yxC4 : w4.cell? ⟨g, 4, none⟩ = some (.int .i64 psq) := HBC4.out.cell 4
       have yxC5 : w4.cell? ⟨g, 5, none⟩ = some (.int .i64 cc) := HBC4.out.cell 5
       have yxC6 : w4.cell? ⟨g, 6, none⟩ = some (.int .i64 pn) := HBC4.out.cell 6
       have yxC7 : w4.cell? ⟨g, 7, none⟩ = some (.string da) := HBC4.out.cell 7)
    | (go_simp
       go_at_call 69
       refine (rto_q (s := (⟨mo, cr, st, sq, psq, cc, pn, da⟩ : Cn.S)) (r := z1) HR4.out 6 2 HZy2.out).mono ?_
       rintro e w5 ⟨Py2, rfl, hr5, ht5⟩
       simp only [rcV, rrV]
       have HBC5 := Lib.hid (ht5.keptB HBC4.out HGC.out)
       have HBU5 := Lib.hid (ht5.keptB HBU4.out HGU.out)
       have HBOC5 := Lib.hid (ht5.keptB HBOC4.out HGOC.out)
       have HBOR5 := Lib.hid (ht5.keptB HBOR4.out HGOR.out)
       have HBR5 := Lib.hid (ht5.keptB HBR4.out HGR.out)
       have HR5 := Lib.hid hr5
       have HT5 : Hid (Touch (OfAct K) w w5) := HT4.out.trans (ht5.loose HL.out) (fun _ _ e => e)
       clear hr5 ht5
       have zxOC0 : w5.cell? ⟨g + 1 + 1, 0, none⟩ = some (.int .i64 0) := HBOC5.out.cell 0
       have zfOC0 := HBOC5.out.frozen 0
       have zxOC1 : w5.cell? ⟨g + 1 + 1, 1, none⟩ = some (.int .i64 0) := HBOC5.out.cell 1
       have zfOC1 := HBOC5.out.frozen 1
       have zxOC2 : w5.cell? ⟨g + 1 + 1, 2, none⟩ = some (.int .i64 0) := HBOC5.out.cell 2
       have zfOC2 := HBOC5.out.frozen 2
       have zxOC3 : w5.cell? ⟨g + 1 + 1, 3, none⟩ = some (.int .i64 0) := HBOC5.out.cell 3
       have zfOC3 := HBOC5.out.frozen 3
       have zxOC4 : w5.cell? ⟨g + 1 + 1, 4, none⟩ = some (.int .i64 0) := HBOC5.out.cell 4
       have zfOC4 := HBOC5.out.frozen 4
       have zxOC5 : w5.cell? ⟨g + 1 + 1, 5, none⟩ = some (.int .i64 0) := HBOC5.out.cell 5
       have zfOC5 := HBOC5.out.frozen 5
       have zxOC6 : w5.cell? ⟨g + 1 + 1, 6, none⟩ = some (.int .i64 0) := HBOC5.out.cell 6
       have zfOC6 := HBOC5.out.frozen 6
       have zxOC7 : w5.cell? ⟨g + 1 + 1, 7, none⟩ = some (.string { data := #[] }) := HBOC5.out.cell 7
       have zfOC7 := HBOC5.out.frozen 7
       have zxOR0 : w5.cell? ⟨g + 1 + 1 + 1, 0, none⟩ = some (.slice none 0 0) := HBOR5.out.cell 0
       have zfOR0 := HBOR5.out.frozen 0
       have zxOR1 : w5.cell? ⟨g + 1 + 1 + 1, 1, none⟩ = some (.slice none 0 0) := HBOR5.out.cell 1
       have zfOR1 := HBOR5.out.frozen 1
       have zxOR2 : w5.cell? ⟨g + 1 + 1 + 1, 2, none⟩ = some (.bool false) := HBOR5.out.cell 2
       have zfOR2 := HBOR5.out.frozen 2
       have zxOR3 : w5.cell? ⟨g + 1 + 1 + 1, 3, none⟩ = some (.bool false) := HBOR5.out.cell 3
       have zfOR3 := HBOR5.out.frozen 3
       have zxOR4 : w5.cell? ⟨g + 1 + 1 + 1, 4, none⟩ = some (.int .i64 0) := HBOR5.out.cell 4
       have zfOR4 := HBOR5.out.frozen 4
       have zxOR5 : w5.cell? ⟨g + 1 + 1 + 1, 5, none⟩ = some (.int .i64 0) := HBOR5.out.cell 5
       have zfOR5 := HBOR5.out.frozen 5))
  all_goals
    have htq6_1 : Touch (· = g + 1 + 1) w5 ((((((((w5.setCell ⟨g + 1 + 1, 0, none⟩ (.int .i64 y2.1.most)).setCell ⟨g + 1 + 1, 1, none⟩ (.int .i64 y2.1.credit)).setCell ⟨g + 1 + 1, 2, none⟩ (.int .i64 y2.1.state)).setCell ⟨g + 1 + 1, 3, none⟩ (.int .i64 y2.1.sq)).setCell ⟨g + 1 + 1, 4, none⟩ (.int .i64 y2.1.peer)).setCell ⟨g + 1 + 1, 5, none⟩ (.int .i64 y2.1.cc)).setCell ⟨g + 1 + 1, 6, none⟩ (.int .i64 y2.1.ms)).setCell ⟨g + 1 + 1, 7, none⟩ (.string y2.1.data)) := (((((((((Touch.refl _ w5).st (S := (· = g + 1 + 1)) (u := .int .i64 y2.1.most) (by exact rfl)).st (S := (· = g + 1 + 1)) (u := .int .i64 y2.1.credit) (by exact rfl)).st (S := (· = g + 1 + 1)) (u := .int .i64 y2.1.state) (by exact rfl)).st (S := (· = g + 1 + 1)) (u := .int .i64 y2.1.sq) (by exact rfl)).st (S := (· = g + 1 + 1)) (u := .int .i64 y2.1.peer) (by exact rfl)).st (S := (· = g + 1 + 1)) (u := .int .i64 y2.1.cc) (by exact rfl)).st (S := (· = g + 1 + 1)) (u := .int .i64 y2.1.ms) (by exact rfl)).st (S := (· = g + 1 + 1)) (u := .string y2.1.data) (by exact rfl))
    have hbq6_1 : Blk ((((((((w5.setCell ⟨g + 1 + 1, 0, none⟩ (.int .i64 y2.1.most)).setCell ⟨g + 1 + 1, 1, none⟩ (.int .i64 y2.1.credit)).setCell ⟨g + 1 + 1, 2, none⟩ (.int .i64 y2.1.state)).setCell ⟨g + 1 + 1, 3, none⟩ (.int .i64 y2.1.sq)).setCell ⟨g + 1 + 1, 4, none⟩ (.int .i64 y2.1.peer)).setCell ⟨g + 1 + 1, 5, none⟩ (.int .i64 y2.1.cc)).setCell ⟨g + 1 + 1, 6, none⟩ (.int .i64 y2.1.ms)).setCell ⟨g + 1 + 1, 7, none⟩ (.string y2.1.data)) (g + 1 + 1) 59 [.int .i64 y2.1.most, .int .i64 y2.1.credit, .int .i64 y2.1.state, .int .i64 y2.1.sq, .int .i64 y2.1.peer, .int .i64 y2.1.cc, .int .i64 y2.1.ms, .string y2.1.data] := ((((((((HBOC5.out.set 0 (.int .i64 y2.1.most)).set 1 (.int .i64 y2.1.credit)).set 2 (.int .i64 y2.1.state)).set 3 (.int .i64 y2.1.sq)).set 4 (.int .i64 y2.1.peer)).set 5 (.int .i64 y2.1.cc)).set 6 (.int .i64 y2.1.ms)).set 7 (.string y2.1.data))
    have hoq6_1C := htq6_1.blk HBC5.out (by intro e; have e : g = g + 1 + 1 := e; omega)
    have hoq6_1U := htq6_1.blk HBU5.out (by intro e; have e : g + 1 = g + 1 + 1 := e; omega)
    have hoq6_1OR := htq6_1.blk HBOR5.out (by intro e; have e : g + 1 + 1 + 1 = g + 1 + 1 := e; omega)
    have hoq6_1R := htq6_1.blk HBR5.out (by intro e; have e : g + 1 + 1 + 1 + 1 = g + 1 + 1 := e; omega)
    have hrq6_1 := HR5.out.touch htq6_1 (fun k e => by have e : k = g + 1 + 1 := e; rw [e]; exact HGOC.out)
    have hTq6_1 : Touch (OfAct K) w ((((((((w5.setCell ⟨g + 1 + 1, 0, none⟩ (.int .i64 y2.1.most)).setCell ⟨g + 1 + 1, 1, none⟩ (.int .i64 y2.1.credit)).setCell ⟨g + 1 + 1, 2, none⟩ (.int .i64 y2.1.state)).setCell ⟨g + 1 + 1, 3, none⟩ (.int .i64 y2.1.sq)).setCell ⟨g + 1 + 1, 4, none⟩ (.int .i64 y2.1.peer)).setCell ⟨g + 1 + 1, 5, none⟩ (.int .i64 y2.1.cc)).setCell ⟨g + 1 + 1, 6, none⟩ (.int .i64 y2.1.ms)).setCell ⟨g + 1 + 1, 7, none⟩ (.string y2.1.data)) := HT5.out.trans htq6_1 (fun k _ e => by have e : k = g + 1 + 1 := e; intro hk; have := HLIM.out k hk; omega)
    obtain ⟨w6, q0⟩ : ∃ x : World, x = ((((((((((((((w5.setCell ⟨g + 1 + 1, 0, none⟩ (.int .i64 y2.1.most)).setCell ⟨g + 1 + 1, 1, none⟩ (.int .i64 y2.1.credit)).setCell ⟨g + 1 + 1, 2, none⟩ (.int .i64 y2.1.state)).setCell ⟨g + 1 + 1, 3, none⟩ (.int .i64 y2.1.sq)).setCell ⟨g + 1 + 1, 4, none⟩ (.int .i64 y2.1.peer)).setCell ⟨g + 1 + 1, 5, none⟩ (.int .i64 y2.1.cc)).setCell ⟨g + 1 + 1, 6, none⟩ (.int .i64 y2.1.ms)).setCell ⟨g + 1 + 1, 7, none⟩ (.string y2.1.data)).setCell ⟨g + 1 + 1 + 1, 0, none⟩ (.slice Py2.A1 y2.2.sigs.length Py2.c1)).setCell ⟨g + 1 + 1 + 1, 1, none⟩ (.slice Py2.A2 y2.2.units.length Py2.c2)).setCell ⟨g + 1 + 1 + 1, 2, none⟩ (.bool y2.2.begins)).setCell ⟨g + 1 + 1 + 1, 3, none⟩ (.bool y2.2.ends)).setCell ⟨g + 1 + 1 + 1, 4, none⟩ (.int .i64 y2.2.ms)).setCell ⟨g + 1 + 1 + 1, 5, none⟩ (.int .i64 y2.2.timer)) := ⟨_, rfl⟩
    have q_w6 := Lib.hid q0
    clear q0
    have htq6_2 : Touch (· = g + 1 + 1 + 1) ((((((((w5.setCell ⟨g + 1 + 1, 0, none⟩ (.int .i64 y2.1.most)).setCell ⟨g + 1 + 1, 1, none⟩ (.int .i64 y2.1.credit)).setCell ⟨g + 1 + 1, 2, none⟩ (.int .i64 y2.1.state)).setCell ⟨g + 1 + 1, 3, none⟩ (.int .i64 y2.1.sq)).setCell ⟨g + 1 + 1, 4, none⟩ (.int .i64 y2.1.peer)).setCell ⟨g + 1 + 1, 5, none⟩ (.int .i64 y2.1.cc)).setCell ⟨g + 1 + 1, 6, none⟩ (.int .i64 y2.1.ms)).setCell ⟨g + 1 + 1, 7, none⟩ (.string y2.1.data)) w6 := by rw [q_w6.out]; exact (((((((Touch.refl _ ((((((((w5.setCell ⟨g + 1 + 1, 0, none⟩ (.int .i64 y2.1.most)).setCell ⟨g + 1 + 1, 1, none⟩ (.int .i64 y2.1.credit)).setCell ⟨g + 1 + 1, 2, none⟩ (.int .i64 y2.1.state)).setCell ⟨g + 1 + 1, 3, none⟩ (.int .i64 y2.1.sq)).setCell ⟨g + 1 + 1, 4, none⟩ (.int .i64 y2.1.peer)).setCell ⟨g + 1 + 1, 5, none⟩ (.int .i64 y2.1.cc)).setCell ⟨g + 1 + 1, 6, none⟩ (.int .i64 y2.1.ms)).setCell ⟨g + 1 + 1, 7, none⟩ (.string y2.1.data))).st (S := (· = g + 1 + 1 + 1)) (u := .slice Py2.A1 y2.2.sigs.length Py2.c1) (by exact rfl)).st (S := (· = g + 1 + 1 + 1)) (u := .slice Py2.A2 y2.2.units.length Py2.c2) (by exact rfl)).st (S := (· = g + 1 + 1 + 1)) (u := .bool y2.2.begins) (by exact rfl)).st (S := (· = g + 1 + 1 + 1)) (u := .bool y2.2.ends) (by exact rfl)).st (S := (· = g + 1 + 1 + 1)) (u := .int .i64 y2.2.ms) (by exact rfl)).st (S := (· = g + 1 + 1 + 1)) (u := .int .i64 y2.2.timer) (by exact rfl))
    have hbq6_2 : Blk w6 (g + 1 + 1 + 1) 90 [.slice Py2.A1 y2.2.sigs.length Py2.c1, .slice Py2.A2 y2.2.units.length Py2.c2, .bool y2.2.begins, .bool y2.2.ends, .int .i64 y2.2.ms, .int .i64 y2.2.timer] := by rw [q_w6.out]; exact ((((((hoq6_1OR.set 0 (.slice Py2.A1 y2.2.sigs.length Py2.c1)).set 1 (.slice Py2.A2 y2.2.units.length Py2.c2)).set 2 (.bool y2.2.begins)).set 3 (.bool y2.2.ends)).set 4 (.int .i64 y2.2.ms)).set 5 (.int .i64 y2.2.timer))
    have hoq6_2C := htq6_2.blk hoq6_1C (by intro e; have e : g = g + 1 + 1 + 1 := e; omega)
    have hoq6_2U := htq6_2.blk hoq6_1U (by intro e; have e : g + 1 = g + 1 + 1 + 1 := e; omega)
    have hoq6_2OC := htq6_2.blk hbq6_1 (by intro e; have e : g + 1 + 1 = g + 1 + 1 + 1 := e; omega)
    have hoq6_2R := htq6_2.blk hoq6_1R (by intro e; have e : g + 1 + 1 + 1 + 1 = g + 1 + 1 + 1 := e; omega)
    have hrq6_2 := hrq6_1.touch htq6_2 (fun k e => by have e : k = g + 1 + 1 + 1 := e; rw [e]; exact HGOR.out)
    have hTq6_2 : Touch (OfAct K) w w6 := hTq6_1.trans htq6_2 (fun k _ e => by have e : k = g + 1 + 1 + 1 := e; intro hk; have := HLIM.out k hk; omega)
    clear xC0 xC1 xC2 xC3 xC4 xC5 xC6 xC7 xR0 xR1 xR2 xR3 xR4 xR5 xU0 xU1 xU2 xU3 xU4 yxC0 yxC1 yxC2 yxC3 yxC4 yxC5 yxC6 yxC7 zxOC0 zfOC0 zxOC1 zfOC1 zxOC2 zfOC2 zxOC3 zfOC3 zxOC4 zfOC4 zxOC5 zfOC5 zxOC6 zfOC6 zxOC7 zfOC7 zxOR0 zfOR0 zxOR1 zfOR1 zxOR2 zfOR2 zxOR3 zfOR3 zxOR4 zfOR4 zxOR5 zfOR5
    have HBC6 : Hid (Blk w6 (g) 59 [.int .i64 mo, .int .i64 cr, .int .i64 st, .int .i64 sq, .int .i64 psq, .int .i64 cc, .int .i64 pn, .string da]) := hoq6_2C
    have HBU6 : Hid (Blk w6 (g + 1) 110 [.int .i64 5, .int .i64 psq, .int .i64 pn, .bool self, .string d]) := hoq6_2U
    have HBOC6 : Hid (Blk w6 (g + 1 + 1) 59 [.int .i64 y2.1.most, .int .i64 y2.1.credit, .int .i64 y2.1.state, .int .i64 y2.1.sq, .int .i64 y2.1.peer, .int .i64 y2.1.cc, .int .i64 y2.1.ms, .string y2.1.data]) := hoq6_2OC
    have HBOR6 : Hid (Blk w6 (g + 1 + 1 + 1) 90 [.slice Py2.A1 y2.2.sigs.length Py2.c1, .slice Py2.A2 y2.2.units.length Py2.c2, .bool y2.2.begins, .bool y2.2.ends, .int .i64 y2.2.ms, .int .i64 y2.2.timer]) := hbq6_2
    have HBR6 : Hid (Blk w6 (g + 1 + 1 + 1 + 1) 90 [.slice none 0 0, .slice none 0 0, .bool false, .bool false, .int .i64 0, .int .i64 0]) := hoq6_2R
    have HR6 := Lib.hid hrq6_2
    have HT6 : Hid (Touch (OfAct K) w w6) := hTq6_2
    clear HBC5 HBU5 HBOC5 HBOR5 HBR5 HR5 HT5 htq6_1 hbq6_1 hrq6_1 hTq6_1 hoq6_1C hoq6_1U hoq6_1OR hoq6_1R htq6_2 hbq6_2 hrq6_2 hTq6_2 hoq6_2C hoq6_2U hoq6_2OC hoq6_2R
    rw [← q_w6.out]
    clear q_w6
    have HAE : Hid (Cn.hear 1 lt (⟨mo, cr, st, sq, pe, cc, ms, da⟩, Cn.r0) ⟨5, psq, pn, 0, 0, none, 0, 0, self, d⟩ = y2) := by unfold Hid; rw [← HZy2.out, ← HZz1.out]; (rcases (show st = 7 ∨ st = 8 ∨ st = 9 ∨ st = 10 by have := HG.out; omega) with e | e | e | e <;> subst e <;> (unfold Cn.hear Cn.handle; (simp only [↓reduceIte, Int.reduceEq, HNO.out] <;> rfl)))
    have HX : Hid (∀ e, e = .returned (.tuple #[.agg #[.int .i64 y2.1.most, .int .i64 y2.1.credit, .int .i64 y2.1.state, .int .i64 y2.1.sq, .int .i64 y2.1.peer, .int .i64 y2.1.cc, .int .i64 y2.1.ms, .string y2.1.data], .agg #[.slice Py2.A1 y2.2.sigs.length Py2.c1, .slice Py2.A2 y2.2.units.length Py2.c2, .bool y2.2.begins, .bool y2.2.ends, .int .i64 y2.2.ms, .int .i64 y2.2.timer]]) → RPost K (0 + 9) (Cn.hear 1 lt (⟨mo, cr, st, sq, pe, cc, ms, da⟩, Cn.r0) ⟨5, psq, pn, 0, 0, none, 0, 0, self, d⟩) w e w6) := fun e he => ⟨Py2, he.trans (by (rw [HAE.out]; rfl)), by (refine ((HR6.out.less HL.out).wide (by omega)).eq ?_ ?_ <;> (rw [HAE.out])), HT6.out⟩
    have zOC0 : w6.cell? ⟨g + 1 + 1, 0, none⟩ = some (.int .i64 y2.1.most) := HBOC6.out.cell 0
    have zOC1 : w6.cell? ⟨g + 1 + 1, 1, none⟩ = some (.int .i64 y2.1.credit) := HBOC6.out.cell 1
    have zOC2 : w6.cell? ⟨g + 1 + 1, 2, none⟩ = some (.int .i64 y2.1.state) := HBOC6.out.cell 2
    have zOC3 : w6.cell? ⟨g + 1 + 1, 3, none⟩ = some (.int .i64 y2.1.sq) := HBOC6.out.cell 3
    have zOC4 : w6.cell? ⟨g + 1 + 1, 4, none⟩ = some (.int .i64 y2.1.peer) := HBOC6.out.cell 4
    have zOC5 : w6.cell? ⟨g + 1 + 1, 5, none⟩ = some (.int .i64 y2.1.cc) := HBOC6.out.cell 5
    have zOC6 : w6.cell? ⟨g + 1 + 1, 6, none⟩ = some (.int .i64 y2.1.ms) := HBOC6.out.cell 6
    have zOC7 : w6.cell? ⟨g + 1 + 1, 7, none⟩ = some (.string y2.1.data) := HBOC6.out.cell 7
    have zOR0 : w6.cell? ⟨g + 1 + 1 + 1, 0, none⟩ = some (.slice Py2.A1 y2.2.sigs.length Py2.c1) := HBOR6.out.cell 0
    have zOR1 : w6.cell? ⟨g + 1 + 1 + 1, 1, none⟩ = some (.slice Py2.A2 y2.2.units.length Py2.c2) := HBOR6.out.cell 1
    have zOR2 : w6.cell? ⟨g + 1 + 1 + 1, 2, none⟩ = some (.bool y2.2.begins) := HBOR6.out.cell 2
    have zOR3 : w6.cell? ⟨g + 1 + 1 + 1, 3, none⟩ = some (.bool y2.2.ends) := HBOR6.out.cell 3
    have zOR4 : w6.cell? ⟨g + 1 + 1 + 1, 4, none⟩ = some (.int .i64 y2.2.ms) := HBOR6.out.cell 4
    have zOR5 : w6.cell? ⟨g + 1 + 1 + 1, 5, none⟩ = some (.int .i64 y2.2.timer) := HBOR6.out.cell 5
    go_wp2
    exact bodyPost_ret (v := _) (by simp [results, Try.results62, go_sem, zOC0, zOC1, zOC2, zOC3, zOC4, zOC5, zOC6, zOC7, zOR0, zOR1, zOR2, zOR3, zOR4, zOR5]) rfl (HX.out _ rfl)
set_option maxHeartbeats 4000000 in
set_option maxRecDepth 100000 in
theorem rrec_9_10n {K : Nat → Prop} {w : World} (hlim : ∀ k, K k → k < w.heap.size) (mo cr sq pe cc ms psq pn lt : Int) (da : ByteArray) (self : Bool) (d : ByteArray) (hq : Ru.refOf 10 9 = 1) (ho : ¬ psq = pe) :
    Calls Try.prog 62 #[rcV ⟨mo, cr, 10, sq, pe, cc, ms, da⟩, ruV ⟨9, psq, pn, 0, 0, none, 0, 0, self, d⟩] w (RPost K 9 (Cn.hear 1 lt (⟨mo, cr, 10, sq, pe, cc, ms, da⟩, Cn.r0) ⟨9, psq, pn, 0, 0, none, 0, 0, self, d⟩) w) := by
  unfold rcV ruV
  dsimp only
  have h := RIn.nil (w := w) hlim
  obtain ⟨w1, q0⟩ : ∃ x : World, x = (((((w.alloc (.cells #[.int .i64 mo, .int .i64 cr, .int .i64 10, .int .i64 sq, .int .i64 pe, .int .i64 cc, .int .i64 ms, .string da] 59)).alloc (.cells #[.int .i64 9, .int .i64 psq, .int .i64 pn, .bool self, .string d] 110)).alloc (.cells #[.int .i64 0, .int .i64 0, .int .i64 0, .int .i64 0, .int .i64 0, .int .i64 0, .int .i64 0, .string { data := #[] }] 59)).alloc (.cells #[.slice none 0 0, .slice none 0 0, .bool false, .bool false, .int .i64 0, .int .i64 0] 90)).alloc (.cells #[.slice none 0 0, .slice none 0 0, .bool false, .bool false, .int .i64 0, .int .i64 0] 90)) := ⟨_, rfl⟩
  have q_w1 := Lib.hid q0
  clear q0
  have HF : Hid (Fresh w w1) := by rw [q_w1.out]; exact (((((Touch.refl _ w).alloc _).alloc _).alloc _).alloc _).alloc _
  have HBC1 : Hid (Blk w1 (w.heap.size) 59 [.int .i64 mo, .int .i64 cr, .int .i64 10, .int .i64 sq, .int .i64 pe, .int .i64 cc, .int .i64 ms, .string da]) := by
    rw [q_w1.out]
    have := ((((Blk.new w 59 [.int .i64 mo, .int .i64 cr, .int .i64 10, .int .i64 sq, .int .i64 pe, .int .i64 cc, .int .i64 ms, .string da]).alloc (.cells #[.int .i64 9, .int .i64 psq, .int .i64 pn, .bool self, .string d] 110)).alloc (.cells #[.int .i64 0, .int .i64 0, .int .i64 0, .int .i64 0, .int .i64 0, .int .i64 0, .int .i64 0, .string { data := #[] }] 59)).alloc (.cells #[.slice none 0 0, .slice none 0 0, .bool false, .bool false, .int .i64 0, .int .i64 0] 90)).alloc (.cells #[.slice none 0 0, .slice none 0 0, .bool false, .bool false, .int .i64 0, .int .i64 0] 90)
    exact this
  have HGC : Hid (Kept K w w1 (w.heap.size)) := by rw [q_w1.out]; exact .inr ⟨by omega, by simp; try omega⟩
  have HBU1 : Hid (Blk w1 (w.heap.size + 1) 110 [.int .i64 9, .int .i64 psq, .int .i64 pn, .bool self, .string d]) := by
    rw [q_w1.out]
    have := (((Blk.new (w.alloc (.cells #[.int .i64 mo, .int .i64 cr, .int .i64 10, .int .i64 sq, .int .i64 pe, .int .i64 cc, .int .i64 ms, .string da] 59)) 110 [.int .i64 9, .int .i64 psq, .int .i64 pn, .bool self, .string d]).alloc (.cells #[.int .i64 0, .int .i64 0, .int .i64 0, .int .i64 0, .int .i64 0, .int .i64 0, .int .i64 0, .string { data := #[] }] 59)).alloc (.cells #[.slice none 0 0, .slice none 0 0, .bool false, .bool false, .int .i64 0, .int .i64 0] 90)).alloc (.cells #[.slice none 0 0, .slice none 0 0, .bool false, .bool false, .int .i64 0, .int .i64 0] 90)
    rwa [show (w.alloc (.cells #[.int .i64 mo, .int .i64 cr, .int .i64 10, .int .i64 sq, .int .i64 pe, .int .i64 cc, .int .i64 ms, .string da] 59)).heap.size = w.heap.size + 1 by simp] at this
  have HGU : Hid (Kept K w w1 (w.heap.size + 1)) := by rw [q_w1.out]; exact .inr ⟨by omega, by simp; try omega⟩
  have HBOC1 : Hid (Blk w1 (w.heap.size + 1 + 1) 59 [.int .i64 0, .int .i64 0, .int .i64 0, .int .i64 0, .int .i64 0, .int .i64 0, .int .i64 0, .string { data := #[] }]) := by
    rw [q_w1.out]
    have := ((Blk.new ((w.alloc (.cells #[.int .i64 mo, .int .i64 cr, .int .i64 10, .int .i64 sq, .int .i64 pe, .int .i64 cc, .int .i64 ms, .string da] 59)).alloc (.cells #[.int .i64 9, .int .i64 psq, .int .i64 pn, .bool self, .string d] 110)) 59 [.int .i64 0, .int .i64 0, .int .i64 0, .int .i64 0, .int .i64 0, .int .i64 0, .int .i64 0, .string { data := #[] }]).alloc (.cells #[.slice none 0 0, .slice none 0 0, .bool false, .bool false, .int .i64 0, .int .i64 0] 90)).alloc (.cells #[.slice none 0 0, .slice none 0 0, .bool false, .bool false, .int .i64 0, .int .i64 0] 90)
    rwa [show ((w.alloc (.cells #[.int .i64 mo, .int .i64 cr, .int .i64 10, .int .i64 sq, .int .i64 pe, .int .i64 cc, .int .i64 ms, .string da] 59)).alloc (.cells #[.int .i64 9, .int .i64 psq, .int .i64 pn, .bool self, .string d] 110)).heap.size = w.heap.size + 1 + 1 by simp] at this
  have HGOC : Hid (Kept K w w1 (w.heap.size + 1 + 1)) := by rw [q_w1.out]; exact .inr ⟨by omega, by simp; try omega⟩
  have HBOR1 : Hid (Blk w1 (w.heap.size + 1 + 1 + 1) 90 [.slice none 0 0, .slice none 0 0, .bool false, .bool false, .int .i64 0, .int .i64 0]) := by
    rw [q_w1.out]
    have := (Blk.new (((w.alloc (.cells #[.int .i64 mo, .int .i64 cr, .int .i64 10, .int .i64 sq, .int .i64 pe, .int .i64 cc, .int .i64 ms, .string da] 59)).alloc (.cells #[.int .i64 9, .int .i64 psq, .int .i64 pn, .bool self, .string d] 110)).alloc (.cells #[.int .i64 0, .int .i64 0, .int .i64 0, .int .i64 0, .int .i64 0, .int .i64 0, .int .i64 0, .string { data := #[] }] 59)) 90 [.slice none 0 0, .slice none 0 0, .bool false, .bool false, .int .i64 0, .int .i64 0]).alloc (.cells #[.slice none 0 0, .slice none 0 0, .bool false, .bool false, .int .i64 0, .int .i64 0] 90)
    rwa [show (((w.alloc (.cells #[.int .i64 mo, .int .i64 cr, .int .i64 10, .int .i64 sq, .int .i64 pe, .int .i64 cc, .int .i64 ms, .string da] 59)).alloc (.cells #[.int .i64 9, .int .i64 psq, .int .i64 pn, .bool self, .string d] 110)).alloc (.cells #[.int .i64 0, .int .i64 0, .int .i64 0, .int .i64 0, .int .i64 0, .int .i64 0, .int .i64 0, .string { data := #[] }] 59)).heap.size = w.heap.size + 1 + 1 + 1 by simp] at this
  have HGOR : Hid (Kept K w w1 (w.heap.size + 1 + 1 + 1)) := by rw [q_w1.out]; exact .inr ⟨by omega, by simp; try omega⟩
  have HBR1 : Hid (Blk w1 (w.heap.size + 1 + 1 + 1 + 1) 90 [.slice none 0 0, .slice none 0 0, .bool false, .bool false, .int .i64 0, .int .i64 0]) := by
    rw [q_w1.out]
    have := Blk.new ((((w.alloc (.cells #[.int .i64 mo, .int .i64 cr, .int .i64 10, .int .i64 sq, .int .i64 pe, .int .i64 cc, .int .i64 ms, .string da] 59)).alloc (.cells #[.int .i64 9, .int .i64 psq, .int .i64 pn, .bool self, .string d] 110)).alloc (.cells #[.int .i64 0, .int .i64 0, .int .i64 0, .int .i64 0, .int .i64 0, .int .i64 0, .int .i64 0, .string { data := #[] }] 59)).alloc (.cells #[.slice none 0 0, .slice none 0 0, .bool false, .bool false, .int .i64 0, .int .i64 0] 90)) 90 [.slice none 0 0, .slice none 0 0, .bool false, .bool false, .int .i64 0, .int .i64 0]
    rwa [show ((((w.alloc (.cells #[.int .i64 mo, .int .i64 cr, .int .i64 10, .int .i64 sq, .int .i64 pe, .int .i64 cc, .int .i64 ms, .string da] 59)).alloc (.cells #[.int .i64 9, .int .i64 psq, .int .i64 pn, .bool self, .string d] 110)).alloc (.cells #[.int .i64 0, .int .i64 0, .int .i64 0, .int .i64 0, .int .i64 0, .int .i64 0, .int .i64 0, .string { data := #[] }] 59)).alloc (.cells #[.slice none 0 0, .slice none 0 0, .bool false, .bool false, .int .i64 0, .int .i64 0] 90)).heap.size = w.heap.size + 1 + 1 + 1 + 1 by simp] at this
  have HGR : Hid (Kept K w w1 (w.heap.size + 1 + 1 + 1 + 1)) := by rw [q_w1.out]; exact .inr ⟨by omega, by simp; try omega⟩
  have HL : Hid (∀ k, K k → Kept K w w1 k) := by rw [q_w1.out]; exact fun k e => .inl e
  have HLIM : Hid (∀ k, K k → k < w.heap.size) := h.lim
  have HR1 := Lib.hid (h.keep HF.out)
  have HT1 : Hid (Touch (OfAct K) w w1) := HF.out.mono (fun _ _ e => e.elim)
  clear h hlim HF
  go_enter Try.func62, Try.ntmps62
  go_upto_region 2 with (fail)
  rw [← q_w1.out]
  clear q_w1
  generalize Kept K w w1 = K1 at *
  generalize w.heap.size = g at *
  have HOF := Lib.hid (fun W => refOf_any 10 9 W)
  have HQQ := Lib.hid hq
  clear hq
  rw [HQQ.out] at HOF
  have xC0 : w1.cell? ⟨g, 0, none⟩ = some (.int .i64 mo) := HBC1.out.cell 0
  have xC1 : w1.cell? ⟨g, 1, none⟩ = some (.int .i64 cr) := HBC1.out.cell 1
  have xC2 : w1.cell? ⟨g, 2, none⟩ = some (.int .i64 10) := HBC1.out.cell 2
  have xC3 : w1.cell? ⟨g, 3, none⟩ = some (.int .i64 sq) := HBC1.out.cell 3
  have xC4 : w1.cell? ⟨g, 4, none⟩ = some (.int .i64 pe) := HBC1.out.cell 4
  have xC5 : w1.cell? ⟨g, 5, none⟩ = some (.int .i64 cc) := HBC1.out.cell 5
  have xC6 : w1.cell? ⟨g, 6, none⟩ = some (.int .i64 ms) := HBC1.out.cell 6
  have xC7 : w1.cell? ⟨g, 7, none⟩ = some (.string da) := HBC1.out.cell 7
  have xU0 : w1.cell? ⟨g + 1, 0, none⟩ = some (.int .i64 9) := HBU1.out.cell 0
  have xU1 : w1.cell? ⟨g + 1, 1, none⟩ = some (.int .i64 psq) := HBU1.out.cell 1
  have xU2 : w1.cell? ⟨g + 1, 2, none⟩ = some (.int .i64 pn) := HBU1.out.cell 2
  have xU3 : w1.cell? ⟨g + 1, 3, none⟩ = some (.bool self) := HBU1.out.cell 3
  have xU4 : w1.cell? ⟨g + 1, 4, none⟩ = some (.string d) := HBU1.out.cell 4
  go_wp2_with fail
  refine (HOF.out _).mono ?_
  rintro e w2 ⟨rfl, f2⟩
  have HBC2 := Lib.hid (f2.blk HBC1.out (fun e => e))
  have HBU2 := Lib.hid (f2.blk HBU1.out (fun e => e))
  have HBOC2 := Lib.hid (f2.blk HBOC1.out (fun e => e))
  have HBOR2 := Lib.hid (f2.blk HBOR1.out (fun e => e))
  have HBR2 := Lib.hid (f2.blk HBR1.out (fun e => e))
  have HR2 := Lib.hid (HR1.out.old f2)
  have HT2 : Hid (Touch (OfAct K) w w2) := HT1.out.trans f2 (fun _ _ e => e.elim)
  clear xC0 xC1 xC2 xC3 xC4 xC5 xC6 xC7 xU0 xU1 xU2 xU3 xU4
  clear f2 HBC1 HBU1 HBOC1 HBOR1 HBR1 HR1 HT1
  have HNO := Lib.hid ho
  have bo : (psq == pe) = false := by simpa using ho
  clear ho
  have xC0 : w2.cell? ⟨g, 0, none⟩ = some (.int .i64 mo) := HBC2.out.cell 0
  have fC0 := HBC2.out.frozen 0
  have xC1 : w2.cell? ⟨g, 1, none⟩ = some (.int .i64 cr) := HBC2.out.cell 1
  have fC1 := HBC2.out.frozen 1
  have xC2 : w2.cell? ⟨g, 2, none⟩ = some (.int .i64 10) := HBC2.out.cell 2
  have fC2 := HBC2.out.frozen 2
  have xC3 : w2.cell? ⟨g, 3, none⟩ = some (.int .i64 sq) := HBC2.out.cell 3
  have fC3 := HBC2.out.frozen 3
  have xC4 : w2.cell? ⟨g, 4, none⟩ = some (.int .i64 pe) := HBC2.out.cell 4
  have fC4 := HBC2.out.frozen 4
  have xC5 : w2.cell? ⟨g, 5, none⟩ = some (.int .i64 cc) := HBC2.out.cell 5
  have fC5 := HBC2.out.frozen 5
  have xC6 : w2.cell? ⟨g, 6, none⟩ = some (.int .i64 ms) := HBC2.out.cell 6
  have fC6 := HBC2.out.frozen 6
  have xC7 : w2.cell? ⟨g, 7, none⟩ = some (.string da) := HBC2.out.cell 7
  have fC7 := HBC2.out.frozen 7
  have xU0 : w2.cell? ⟨g + 1, 0, none⟩ = some (.int .i64 9) := HBU2.out.cell 0
  have xU1 : w2.cell? ⟨g + 1, 1, none⟩ = some (.int .i64 psq) := HBU2.out.cell 1
  have xU2 : w2.cell? ⟨g + 1, 2, none⟩ = some (.int .i64 pn) := HBU2.out.cell 2
  have xU3 : w2.cell? ⟨g + 1, 3, none⟩ = some (.bool self) := HBU2.out.cell 3
  have xU4 : w2.cell? ⟨g + 1, 4, none⟩ = some (.string d) := HBU2.out.cell 4
  have xR0 : w2.cell? ⟨g + 1 + 1 + 1 + 1, 0, none⟩ = some (.slice none 0 0) := HBR2.out.cell 0
  have xR1 : w2.cell? ⟨g + 1 + 1 + 1 + 1, 1, none⟩ = some (.slice none 0 0) := HBR2.out.cell 1
  have xR2 : w2.cell? ⟨g + 1 + 1 + 1 + 1, 2, none⟩ = some (.bool false) := HBR2.out.cell 2
  have xR3 : w2.cell? ⟨g + 1 + 1 + 1 + 1, 3, none⟩ = some (.bool false) := HBR2.out.cell 3
  have xR4 : w2.cell? ⟨g + 1 + 1 + 1 + 1, 4, none⟩ = some (.int .i64 0) := HBR2.out.cell 4
  have xR5 : w2.cell? ⟨g + 1 + 1 + 1 + 1, 5, none⟩ = some (.int .i64 0) := HBR2.out.cell 5
  go_upto_region 18 with (fail)
  have htq3_1 : Touch (· = g) w2 ((w2.setCell ⟨g, 4, none⟩ (.int .i64 psq)).setCell ⟨g, 6, none⟩ (.int .i64 pn)) := (((Touch.refl _ w2).st (S := (· = g)) (u := .int .i64 psq) (by exact rfl)).st (S := (· = g)) (u := .int .i64 pn) (by exact rfl))
  have hbq3_1 : Blk ((w2.setCell ⟨g, 4, none⟩ (.int .i64 psq)).setCell ⟨g, 6, none⟩ (.int .i64 pn)) (g) 59 [.int .i64 mo, .int .i64 cr, .int .i64 10, .int .i64 sq, .int .i64 psq, .int .i64 cc, .int .i64 pn, .string da] := ((HBC2.out.set 4 (.int .i64 psq)).set 6 (.int .i64 pn))
  have hoq3_1U := htq3_1.blk HBU2.out (by intro e; have e : g + 1 = g := e; omega)
  have hoq3_1OC := htq3_1.blk HBOC2.out (by intro e; have e : g + 1 + 1 = g := e; omega)
  have hoq3_1OR := htq3_1.blk HBOR2.out (by intro e; have e : g + 1 + 1 + 1 = g := e; omega)
  have hoq3_1R := htq3_1.blk HBR2.out (by intro e; have e : g + 1 + 1 + 1 + 1 = g := e; omega)
  have hrq3_1 := HR2.out.touch htq3_1 (fun k e => by have e : k = g := e; rw [e]; exact HGC.out)
  have hTq3_1 : Touch (OfAct K) w ((w2.setCell ⟨g, 4, none⟩ (.int .i64 psq)).setCell ⟨g, 6, none⟩ (.int .i64 pn)) := HT2.out.trans htq3_1 (fun k _ e => by have e : k = g := e; intro hk; have := HLIM.out k hk; omega)
  clear xC0 fC0 xC1 fC1 xC2 fC2 xC3 fC3 xC4 fC4 xC5 fC5 xC6 fC6 xC7 fC7 xU0 xU1 xU2 xU3 xU4 xR0 xR1 xR2 xR3 xR4 xR5
  have HBC3 : Hid (Blk ((w2.setCell ⟨g, 4, none⟩ (.int .i64 psq)).setCell ⟨g, 6, none⟩ (.int .i64 pn)) (g) 59 [.int .i64 mo, .int .i64 cr, .int .i64 10, .int .i64 sq, .int .i64 psq, .int .i64 cc, .int .i64 pn, .string da]) := hbq3_1
  have HBU3 : Hid (Blk ((w2.setCell ⟨g, 4, none⟩ (.int .i64 psq)).setCell ⟨g, 6, none⟩ (.int .i64 pn)) (g + 1) 110 [.int .i64 9, .int .i64 psq, .int .i64 pn, .bool self, .string d]) := hoq3_1U
  have HBOC3 : Hid (Blk ((w2.setCell ⟨g, 4, none⟩ (.int .i64 psq)).setCell ⟨g, 6, none⟩ (.int .i64 pn)) (g + 1 + 1) 59 [.int .i64 0, .int .i64 0, .int .i64 0, .int .i64 0, .int .i64 0, .int .i64 0, .int .i64 0, .string { data := #[] }]) := hoq3_1OC
  have HBOR3 : Hid (Blk ((w2.setCell ⟨g, 4, none⟩ (.int .i64 psq)).setCell ⟨g, 6, none⟩ (.int .i64 pn)) (g + 1 + 1 + 1) 90 [.slice none 0 0, .slice none 0 0, .bool false, .bool false, .int .i64 0, .int .i64 0]) := hoq3_1OR
  have HBR3 : Hid (Blk ((w2.setCell ⟨g, 4, none⟩ (.int .i64 psq)).setCell ⟨g, 6, none⟩ (.int .i64 pn)) (g + 1 + 1 + 1 + 1) 90 [.slice none 0 0, .slice none 0 0, .bool false, .bool false, .int .i64 0, .int .i64 0]) := hoq3_1R
  have HR3 := Lib.hid hrq3_1
  have HT3 : Hid (Touch (OfAct K) w ((w2.setCell ⟨g, 4, none⟩ (.int .i64 psq)).setCell ⟨g, 6, none⟩ (.int .i64 pn))) := hTq3_1
  clear HBC2 HBU2 HBOC2 HBOR2 HBR2 HR2 HT2 htq3_1 hbq3_1 hrq3_1 hTq3_1 hoq3_1U hoq3_1OC hoq3_1OR hoq3_1R
  generalize ((w2.setCell ⟨g, 4, none⟩ (.int .i64 psq)).setCell ⟨g, 6, none⟩ (.int .i64 pn)) = w3 at *
  obtain ⟨z1, hz1⟩ : ∃ q_, { Cn.r0 with sigs := Cn.r0.sigs ++ [Cn.sig 7 false ByteArray.empty] } = q_ := ⟨_, rfl⟩
  have HZz1 := Lib.hid hz1
  clear hz1
  obtain ⟨y2, hy2⟩ : ∃ q_, Cn.toT ((⟨mo, cr, 10, sq, psq, cc, pn, da⟩ : Cn.S), z1) 9 0 = q_ := ⟨_, rfl⟩
  have HZy2 := Lib.hid hy2
  clear hy2
  have xC0 : w3.cell? ⟨g, 0, none⟩ = some (.int .i64 mo) := HBC3.out.cell 0
  have xC1 : w3.cell? ⟨g, 1, none⟩ = some (.int .i64 cr) := HBC3.out.cell 1
  have xC2 : w3.cell? ⟨g, 2, none⟩ = some (.int .i64 10) := HBC3.out.cell 2
  have xC3 : w3.cell? ⟨g, 3, none⟩ = some (.int .i64 sq) := HBC3.out.cell 3
  have xC4 : w3.cell? ⟨g, 4, none⟩ = some (.int .i64 psq) := HBC3.out.cell 4
  have xC5 : w3.cell? ⟨g, 5, none⟩ = some (.int .i64 cc) := HBC3.out.cell 5
  have xC6 : w3.cell? ⟨g, 6, none⟩ = some (.int .i64 pn) := HBC3.out.cell 6
  have xC7 : w3.cell? ⟨g, 7, none⟩ = some (.string da) := HBC3.out.cell 7
  have xR0 : w3.cell? ⟨g + 1 + 1 + 1 + 1, 0, none⟩ = some (.slice none 0 0) := HBR3.out.cell 0
  have xR1 : w3.cell? ⟨g + 1 + 1 + 1 + 1, 1, none⟩ = some (.slice none 0 0) := HBR3.out.cell 1
  have xR2 : w3.cell? ⟨g + 1 + 1 + 1 + 1, 2, none⟩ = some (.bool false) := HBR3.out.cell 2
  have xR3 : w3.cell? ⟨g + 1 + 1 + 1 + 1, 3, none⟩ = some (.bool false) := HBR3.out.cell 3
  have xR4 : w3.cell? ⟨g + 1 + 1 + 1 + 1, 4, none⟩ = some (.int .i64 0) := HBR3.out.cell 4
  have xR5 : w3.cell? ⟨g + 1 + 1 + 1 + 1, 5, none⟩ = some (.int .i64 0) := HBR3.out.cell 5
  have xU0 : w3.cell? ⟨g + 1, 0, none⟩ = some (.int .i64 9) := HBU3.out.cell 0
  have xU1 : w3.cell? ⟨g + 1, 1, none⟩ = some (.int .i64 psq) := HBU3.out.cell 1
  have xU2 : w3.cell? ⟨g + 1, 2, none⟩ = some (.int .i64 pn) := HBU3.out.cell 2
  have xU3 : w3.cell? ⟨g + 1, 3, none⟩ = some (.bool self) := HBU3.out.cell 3
  have xU4 : w3.cell? ⟨g + 1, 4, none⟩ = some (.string d) := HBU3.out.cell 4
  go_wp2
  go_region_law (first
    | (go_simp
       go_at_call 72
       refine (rtell_q (w := w3.drew) (r := Cn.r0) (HR3.out.old (Touch.refl _ w3).drew) (by omega) 7 false ByteArray.empty HZz1.out).mono ?_
       rintro e w4 ⟨Pz1, rfl, hr4, ht4⟩
       simp only [rcV, rrV]
       have HBC4 := Lib.hid (ht4.keptB (Blk.drew HBC3.out) HGC.out)
       have HBU4 := Lib.hid (ht4.keptB (Blk.drew HBU3.out) HGU.out)
       have HBOC4 := Lib.hid (ht4.keptB (Blk.drew HBOC3.out) HGOC.out)
       have HBOR4 := Lib.hid (ht4.keptB (Blk.drew HBOR3.out) HGOR.out)
       have HBR4 := Lib.hid (ht4.keptB (Blk.drew HBR3.out) HGR.out)
       have HR4 := Lib.hid hr4
       have HT4 : Hid (Touch (OfAct K) w w4) := HT3.out.drew.trans (ht4.loose HL.out) (fun _ _ e => e)
       clear hr4 ht4
       have yxC0 : w4.cell? ⟨g, 0, none⟩ = some (.int .i64 mo) := HBC4.out.cell 0
       have yxC1 : w4.cell? ⟨g, 1, none⟩ = some (.int .i64 cr) := HBC4.out.cell 1
       have yxC2 : w4.cell? ⟨g, 2, none⟩ = some (.int .i64 10) := HBC4.out.cell 2
       have yxC3 : w4.cell? ⟨g, 3, none⟩ = some (.int .i64 sq) := HBC4.out.cell 3
       have yxC4 : w4.cell? ⟨g, 4, none⟩ = some (.int .i64 psq) := HBC4.out.cell 4
       have yxC5 : w4.cell? ⟨g, 5, none⟩ = some (.int .i64 cc) := HBC4.out.cell 5
       have yxC6 : w4.cell? ⟨g, 6, none⟩ = some (.int .i64 pn) := HBC4.out.cell 6
       have yxC7 : w4.cell? ⟨g, 7, none⟩ = some (.string da) := HBC4.out.cell 7)
    | (go_simp
       go_at_call 69
       refine (rto_q (s := (⟨mo, cr, 10, sq, psq, cc, pn, da⟩ : Cn.S)) (r := z1) HR4.out 9 0 HZy2.out).mono ?_
       rintro e w5 ⟨Py2, rfl, hr5, ht5⟩
       simp only [rcV, rrV]
       have HBC5 := Lib.hid (ht5.keptB HBC4.out HGC.out)
       have HBU5 := Lib.hid (ht5.keptB HBU4.out HGU.out)
       have HBOC5 := Lib.hid (ht5.keptB HBOC4.out HGOC.out)
       have HBOR5 := Lib.hid (ht5.keptB HBOR4.out HGOR.out)
       have HBR5 := Lib.hid (ht5.keptB HBR4.out HGR.out)
       have HR5 := Lib.hid hr5
       have HT5 : Hid (Touch (OfAct K) w w5) := HT4.out.trans (ht5.loose HL.out) (fun _ _ e => e)
       clear hr5 ht5
       have zxOC0 : w5.cell? ⟨g + 1 + 1, 0, none⟩ = some (.int .i64 0) := HBOC5.out.cell 0
       have zfOC0 := HBOC5.out.frozen 0
       have zxOC1 : w5.cell? ⟨g + 1 + 1, 1, none⟩ = some (.int .i64 0) := HBOC5.out.cell 1
       have zfOC1 := HBOC5.out.frozen 1
       have zxOC2 : w5.cell? ⟨g + 1 + 1, 2, none⟩ = some (.int .i64 0) := HBOC5.out.cell 2
       have zfOC2 := HBOC5.out.frozen 2
       have zxOC3 : w5.cell? ⟨g + 1 + 1, 3, none⟩ = some (.int .i64 0) := HBOC5.out.cell 3
       have zfOC3 := HBOC5.out.frozen 3
       have zxOC4 : w5.cell? ⟨g + 1 + 1, 4, none⟩ = some (.int .i64 0) := HBOC5.out.cell 4
       have zfOC4 := HBOC5.out.frozen 4
       have zxOC5 : w5.cell? ⟨g + 1 + 1, 5, none⟩ = some (.int .i64 0) := HBOC5.out.cell 5
       have zfOC5 := HBOC5.out.frozen 5
       have zxOC6 : w5.cell? ⟨g + 1 + 1, 6, none⟩ = some (.int .i64 0) := HBOC5.out.cell 6
       have zfOC6 := HBOC5.out.frozen 6
       have zxOC7 : w5.cell? ⟨g + 1 + 1, 7, none⟩ = some (.string { data := #[] }) := HBOC5.out.cell 7
       have zfOC7 := HBOC5.out.frozen 7
       have zxOR0 : w5.cell? ⟨g + 1 + 1 + 1, 0, none⟩ = some (.slice none 0 0) := HBOR5.out.cell 0
       have zfOR0 := HBOR5.out.frozen 0
       have zxOR1 : w5.cell? ⟨g + 1 + 1 + 1, 1, none⟩ = some (.slice none 0 0) := HBOR5.out.cell 1
       have zfOR1 := HBOR5.out.frozen 1
       have zxOR2 : w5.cell? ⟨g + 1 + 1 + 1, 2, none⟩ = some (.bool false) := HBOR5.out.cell 2
       have zfOR2 := HBOR5.out.frozen 2
       have zxOR3 : w5.cell? ⟨g + 1 + 1 + 1, 3, none⟩ = some (.bool false) := HBOR5.out.cell 3
       have zfOR3 := HBOR5.out.frozen 3
       have zxOR4 : w5.cell? ⟨g + 1 + 1 + 1, 4, none⟩ = some (.int .i64 0) := HBOR5.out.cell 4
       have zfOR4 := HBOR5.out.frozen 4
       have zxOR5 : w5.cell? ⟨g + 1 + 1 + 1, 5, none⟩ = some (.int .i64 0) := HBOR5.out.cell 5
       have zfOR5 := HBOR5.out.frozen 5))
  all_goals
    have htq6_1 : Touch (· = g + 1 + 1) w5 ((((((((w5.setCell ⟨g + 1 + 1, 0, none⟩ (.int .i64 y2.1.most)).setCell ⟨g + 1 + 1, 1, none⟩ (.int .i64 y2.1.credit)).setCell ⟨g + 1 + 1, 2, none⟩ (.int .i64 y2.1.state)).setCell ⟨g + 1 + 1, 3, none⟩ (.int .i64 y2.1.sq)).setCell ⟨g + 1 + 1, 4, none⟩ (.int .i64 y2.1.peer)).setCell ⟨g + 1 + 1, 5, none⟩ (.int .i64 y2.1.cc)).setCell ⟨g + 1 + 1, 6, none⟩ (.int .i64 y2.1.ms)).setCell ⟨g + 1 + 1, 7, none⟩ (.string y2.1.data)) := (((((((((Touch.refl _ w5).st (S := (· = g + 1 + 1)) (u := .int .i64 y2.1.most) (by exact rfl)).st (S := (· = g + 1 + 1)) (u := .int .i64 y2.1.credit) (by exact rfl)).st (S := (· = g + 1 + 1)) (u := .int .i64 y2.1.state) (by exact rfl)).st (S := (· = g + 1 + 1)) (u := .int .i64 y2.1.sq) (by exact rfl)).st (S := (· = g + 1 + 1)) (u := .int .i64 y2.1.peer) (by exact rfl)).st (S := (· = g + 1 + 1)) (u := .int .i64 y2.1.cc) (by exact rfl)).st (S := (· = g + 1 + 1)) (u := .int .i64 y2.1.ms) (by exact rfl)).st (S := (· = g + 1 + 1)) (u := .string y2.1.data) (by exact rfl))
    have hbq6_1 : Blk ((((((((w5.setCell ⟨g + 1 + 1, 0, none⟩ (.int .i64 y2.1.most)).setCell ⟨g + 1 + 1, 1, none⟩ (.int .i64 y2.1.credit)).setCell ⟨g + 1 + 1, 2, none⟩ (.int .i64 y2.1.state)).setCell ⟨g + 1 + 1, 3, none⟩ (.int .i64 y2.1.sq)).setCell ⟨g + 1 + 1, 4, none⟩ (.int .i64 y2.1.peer)).setCell ⟨g + 1 + 1, 5, none⟩ (.int .i64 y2.1.cc)).setCell ⟨g + 1 + 1, 6, none⟩ (.int .i64 y2.1.ms)).setCell ⟨g + 1 + 1, 7, none⟩ (.string y2.1.data)) (g + 1 + 1) 59 [.int .i64 y2.1.most, .int .i64 y2.1.credit, .int .i64 y2.1.state, .int .i64 y2.1.sq, .int .i64 y2.1.peer, .int .i64 y2.1.cc, .int .i64 y2.1.ms, .string y2.1.data] := ((((((((HBOC5.out.set 0 (.int .i64 y2.1.most)).set 1 (.int .i64 y2.1.credit)).set 2 (.int .i64 y2.1.state)).set 3 (.int .i64 y2.1.sq)).set 4 (.int .i64 y2.1.peer)).set 5 (.int .i64 y2.1.cc)).set 6 (.int .i64 y2.1.ms)).set 7 (.string y2.1.data))
    have hoq6_1C := htq6_1.blk HBC5.out (by intro e; have e : g = g + 1 + 1 := e; omega)
    have hoq6_1U := htq6_1.blk HBU5.out (by intro e; have e : g + 1 = g + 1 + 1 := e; omega)
    have hoq6_1OR := htq6_1.blk HBOR5.out (by intro e; have e : g + 1 + 1 + 1 = g + 1 + 1 := e; omega)
    have hoq6_1R := htq6_1.blk HBR5.out (by intro e; have e : g + 1 + 1 + 1 + 1 = g + 1 + 1 := e; omega)
    have hrq6_1 := HR5.out.touch htq6_1 (fun k e => by have e : k = g + 1 + 1 := e; rw [e]; exact HGOC.out)
    have hTq6_1 : Touch (OfAct K) w ((((((((w5.setCell ⟨g + 1 + 1, 0, none⟩ (.int .i64 y2.1.most)).setCell ⟨g + 1 + 1, 1, none⟩ (.int .i64 y2.1.credit)).setCell ⟨g + 1 + 1, 2, none⟩ (.int .i64 y2.1.state)).setCell ⟨g + 1 + 1, 3, none⟩ (.int .i64 y2.1.sq)).setCell ⟨g + 1 + 1, 4, none⟩ (.int .i64 y2.1.peer)).setCell ⟨g + 1 + 1, 5, none⟩ (.int .i64 y2.1.cc)).setCell ⟨g + 1 + 1, 6, none⟩ (.int .i64 y2.1.ms)).setCell ⟨g + 1 + 1, 7, none⟩ (.string y2.1.data)) := HT5.out.trans htq6_1 (fun k _ e => by have e : k = g + 1 + 1 := e; intro hk; have := HLIM.out k hk; omega)
    obtain ⟨w6, q0⟩ : ∃ x : World, x = ((((((((((((((w5.setCell ⟨g + 1 + 1, 0, none⟩ (.int .i64 y2.1.most)).setCell ⟨g + 1 + 1, 1, none⟩ (.int .i64 y2.1.credit)).setCell ⟨g + 1 + 1, 2, none⟩ (.int .i64 y2.1.state)).setCell ⟨g + 1 + 1, 3, none⟩ (.int .i64 y2.1.sq)).setCell ⟨g + 1 + 1, 4, none⟩ (.int .i64 y2.1.peer)).setCell ⟨g + 1 + 1, 5, none⟩ (.int .i64 y2.1.cc)).setCell ⟨g + 1 + 1, 6, none⟩ (.int .i64 y2.1.ms)).setCell ⟨g + 1 + 1, 7, none⟩ (.string y2.1.data)).setCell ⟨g + 1 + 1 + 1, 0, none⟩ (.slice Py2.A1 y2.2.sigs.length Py2.c1)).setCell ⟨g + 1 + 1 + 1, 1, none⟩ (.slice Py2.A2 y2.2.units.length Py2.c2)).setCell ⟨g + 1 + 1 + 1, 2, none⟩ (.bool y2.2.begins)).setCell ⟨g + 1 + 1 + 1, 3, none⟩ (.bool y2.2.ends)).setCell ⟨g + 1 + 1 + 1, 4, none⟩ (.int .i64 y2.2.ms)).setCell ⟨g + 1 + 1 + 1, 5, none⟩ (.int .i64 y2.2.timer)) := ⟨_, rfl⟩
    have q_w6 := Lib.hid q0
    clear q0
    have htq6_2 : Touch (· = g + 1 + 1 + 1) ((((((((w5.setCell ⟨g + 1 + 1, 0, none⟩ (.int .i64 y2.1.most)).setCell ⟨g + 1 + 1, 1, none⟩ (.int .i64 y2.1.credit)).setCell ⟨g + 1 + 1, 2, none⟩ (.int .i64 y2.1.state)).setCell ⟨g + 1 + 1, 3, none⟩ (.int .i64 y2.1.sq)).setCell ⟨g + 1 + 1, 4, none⟩ (.int .i64 y2.1.peer)).setCell ⟨g + 1 + 1, 5, none⟩ (.int .i64 y2.1.cc)).setCell ⟨g + 1 + 1, 6, none⟩ (.int .i64 y2.1.ms)).setCell ⟨g + 1 + 1, 7, none⟩ (.string y2.1.data)) w6 := by rw [q_w6.out]; exact (((((((Touch.refl _ ((((((((w5.setCell ⟨g + 1 + 1, 0, none⟩ (.int .i64 y2.1.most)).setCell ⟨g + 1 + 1, 1, none⟩ (.int .i64 y2.1.credit)).setCell ⟨g + 1 + 1, 2, none⟩ (.int .i64 y2.1.state)).setCell ⟨g + 1 + 1, 3, none⟩ (.int .i64 y2.1.sq)).setCell ⟨g + 1 + 1, 4, none⟩ (.int .i64 y2.1.peer)).setCell ⟨g + 1 + 1, 5, none⟩ (.int .i64 y2.1.cc)).setCell ⟨g + 1 + 1, 6, none⟩ (.int .i64 y2.1.ms)).setCell ⟨g + 1 + 1, 7, none⟩ (.string y2.1.data))).st (S := (· = g + 1 + 1 + 1)) (u := .slice Py2.A1 y2.2.sigs.length Py2.c1) (by exact rfl)).st (S := (· = g + 1 + 1 + 1)) (u := .slice Py2.A2 y2.2.units.length Py2.c2) (by exact rfl)).st (S := (· = g + 1 + 1 + 1)) (u := .bool y2.2.begins) (by exact rfl)).st (S := (· = g + 1 + 1 + 1)) (u := .bool y2.2.ends) (by exact rfl)).st (S := (· = g + 1 + 1 + 1)) (u := .int .i64 y2.2.ms) (by exact rfl)).st (S := (· = g + 1 + 1 + 1)) (u := .int .i64 y2.2.timer) (by exact rfl))
    have hbq6_2 : Blk w6 (g + 1 + 1 + 1) 90 [.slice Py2.A1 y2.2.sigs.length Py2.c1, .slice Py2.A2 y2.2.units.length Py2.c2, .bool y2.2.begins, .bool y2.2.ends, .int .i64 y2.2.ms, .int .i64 y2.2.timer] := by rw [q_w6.out]; exact ((((((hoq6_1OR.set 0 (.slice Py2.A1 y2.2.sigs.length Py2.c1)).set 1 (.slice Py2.A2 y2.2.units.length Py2.c2)).set 2 (.bool y2.2.begins)).set 3 (.bool y2.2.ends)).set 4 (.int .i64 y2.2.ms)).set 5 (.int .i64 y2.2.timer))
    have hoq6_2C := htq6_2.blk hoq6_1C (by intro e; have e : g = g + 1 + 1 + 1 := e; omega)
    have hoq6_2U := htq6_2.blk hoq6_1U (by intro e; have e : g + 1 = g + 1 + 1 + 1 := e; omega)
    have hoq6_2OC := htq6_2.blk hbq6_1 (by intro e; have e : g + 1 + 1 = g + 1 + 1 + 1 := e; omega)
    have hoq6_2R := htq6_2.blk hoq6_1R (by intro e; have e : g + 1 + 1 + 1 + 1 = g + 1 + 1 + 1 := e; omega)
    have hrq6_2 := hrq6_1.touch htq6_2 (fun k e => by have e : k = g + 1 + 1 + 1 := e; rw [e]; exact HGOR.out)
    have hTq6_2 : Touch (OfAct K) w w6 := hTq6_1.trans htq6_2 (fun k _ e => by have e : k = g + 1 + 1 + 1 := e; intro hk; have := HLIM.out k hk; omega)
    clear xC0 xC1 xC2 xC3 xC4 xC5 xC6 xC7 xR0 xR1 xR2 xR3 xR4 xR5 xU0 xU1 xU2 xU3 xU4 yxC0 yxC1 yxC2 yxC3 yxC4 yxC5 yxC6 yxC7 zxOC0 zfOC0 zxOC1 zfOC1 zxOC2 zfOC2 zxOC3 zfOC3 zxOC4 zfOC4 zxOC5 zfOC5 zxOC6 zfOC6 zxOC7 zfOC7 zxOR0 zfOR0 zxOR1 zfOR1 zxOR2 zfOR2 zxOR3 zfOR3 zxOR4 zfOR4 zxOR5 zfOR5
    have HBC6 : Hid (Blk w6 (g) 59 [.int .i64 mo, .int .i64 cr, .int .i64 10, .int .i64 sq, .int .i64 psq, .int .i64 cc, .int .i64 pn, .string da]) := hoq6_2C
    have HBU6 : Hid (Blk w6 (g + 1) 110 [.int .i64 9, .int .i64 psq, .int .i64 pn, .bool self, .string d]) := hoq6_2U
    have HBOC6 : Hid (Blk w6 (g + 1 + 1) 59 [.int .i64 y2.1.most, .int .i64 y2.1.credit, .int .i64 y2.1.state, .int .i64 y2.1.sq, .int .i64 y2.1.peer, .int .i64 y2.1.cc, .int .i64 y2.1.ms, .string y2.1.data]) := hoq6_2OC
    have HBOR6 : Hid (Blk w6 (g + 1 + 1 + 1) 90 [.slice Py2.A1 y2.2.sigs.length Py2.c1, .slice Py2.A2 y2.2.units.length Py2.c2, .bool y2.2.begins, .bool y2.2.ends, .int .i64 y2.2.ms, .int .i64 y2.2.timer]) := hbq6_2
    have HBR6 : Hid (Blk w6 (g + 1 + 1 + 1 + 1) 90 [.slice none 0 0, .slice none 0 0, .bool false, .bool false, .int .i64 0, .int .i64 0]) := hoq6_2R
    have HR6 := Lib.hid hrq6_2
    have HT6 : Hid (Touch (OfAct K) w w6) := hTq6_2
    clear HBC5 HBU5 HBOC5 HBOR5 HBR5 HR5 HT5 htq6_1 hbq6_1 hrq6_1 hTq6_1 hoq6_1C hoq6_1U hoq6_1OR hoq6_1R htq6_2 hbq6_2 hrq6_2 hTq6_2 hoq6_2C hoq6_2U hoq6_2OC hoq6_2R
    rw [← q_w6.out]
    clear q_w6
    have HAE : Hid (Cn.hear 1 lt (⟨mo, cr, 10, sq, pe, cc, ms, da⟩, Cn.r0) ⟨9, psq, pn, 0, 0, none, 0, 0, self, d⟩ = y2) := by unfold Hid; rw [← HZy2.out, ← HZz1.out]; (unfold Cn.hear Cn.handle; (simp only [↓reduceIte, Int.reduceEq, HNO.out] <;> rfl))
    have HX : Hid (∀ e, e = .returned (.tuple #[.agg #[.int .i64 y2.1.most, .int .i64 y2.1.credit, .int .i64 y2.1.state, .int .i64 y2.1.sq, .int .i64 y2.1.peer, .int .i64 y2.1.cc, .int .i64 y2.1.ms, .string y2.1.data], .agg #[.slice Py2.A1 y2.2.sigs.length Py2.c1, .slice Py2.A2 y2.2.units.length Py2.c2, .bool y2.2.begins, .bool y2.2.ends, .int .i64 y2.2.ms, .int .i64 y2.2.timer]]) → RPost K (0 + 9) (Cn.hear 1 lt (⟨mo, cr, 10, sq, pe, cc, ms, da⟩, Cn.r0) ⟨9, psq, pn, 0, 0, none, 0, 0, self, d⟩) w e w6) := fun e he => ⟨Py2, he.trans (by (rw [HAE.out]; rfl)), by (refine ((HR6.out.less HL.out).wide (by omega)).eq ?_ ?_ <;> (rw [HAE.out])), HT6.out⟩
    have zOC0 : w6.cell? ⟨g + 1 + 1, 0, none⟩ = some (.int .i64 y2.1.most) := HBOC6.out.cell 0
    have zOC1 : w6.cell? ⟨g + 1 + 1, 1, none⟩ = some (.int .i64 y2.1.credit) := HBOC6.out.cell 1
    have zOC2 : w6.cell? ⟨g + 1 + 1, 2, none⟩ = some (.int .i64 y2.1.state) := HBOC6.out.cell 2
    have zOC3 : w6.cell? ⟨g + 1 + 1, 3, none⟩ = some (.int .i64 y2.1.sq) := HBOC6.out.cell 3
    have zOC4 : w6.cell? ⟨g + 1 + 1, 4, none⟩ = some (.int .i64 y2.1.peer) := HBOC6.out.cell 4
    have zOC5 : w6.cell? ⟨g + 1 + 1, 5, none⟩ = some (.int .i64 y2.1.cc) := HBOC6.out.cell 5
    have zOC6 : w6.cell? ⟨g + 1 + 1, 6, none⟩ = some (.int .i64 y2.1.ms) := HBOC6.out.cell 6
    have zOC7 : w6.cell? ⟨g + 1 + 1, 7, none⟩ = some (.string y2.1.data) := HBOC6.out.cell 7
    have zOR0 : w6.cell? ⟨g + 1 + 1 + 1, 0, none⟩ = some (.slice Py2.A1 y2.2.sigs.length Py2.c1) := HBOR6.out.cell 0
    have zOR1 : w6.cell? ⟨g + 1 + 1 + 1, 1, none⟩ = some (.slice Py2.A2 y2.2.units.length Py2.c2) := HBOR6.out.cell 1
    have zOR2 : w6.cell? ⟨g + 1 + 1 + 1, 2, none⟩ = some (.bool y2.2.begins) := HBOR6.out.cell 2
    have zOR3 : w6.cell? ⟨g + 1 + 1 + 1, 3, none⟩ = some (.bool y2.2.ends) := HBOR6.out.cell 3
    have zOR4 : w6.cell? ⟨g + 1 + 1 + 1, 4, none⟩ = some (.int .i64 y2.2.ms) := HBOR6.out.cell 4
    have zOR5 : w6.cell? ⟨g + 1 + 1 + 1, 5, none⟩ = some (.int .i64 y2.2.timer) := HBOR6.out.cell 5
    go_wp2
    exact bodyPost_ret (v := _) (by simp [results, Try.results62, go_sem, zOC0, zOC1, zOC2, zOC3, zOC4, zOC5, zOC6, zOC7, zOR0, zOR1, zOR2, zOR3, zOR4, zOR5]) rfl (HX.out _ rfl)
end Go.Proofs.Ytkmegkjkbalooaa
