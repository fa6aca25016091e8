/-
  polliwogref14: Request, the kinds 2 and 3.
-/
import Derived.Test.YtkmegkjkbalooaaRg14q
import Derived.Test.YtkmegkjkbalooaaCnC
import Derived.RegionTactic
import Derived.ChangeAlike
import Derived.Deep.RegionLaw
import Derived.Deep.QuietTactic
import Derived.BigQuiet
import Derived.StillTailTactics
import Derived.Deep.DeepCutAuto
import Derived.Deep.CutBlock
namespace Go.Proofs.Ytkmegkjkbalooaa
open Go.RowKit

set_option maxHeartbeats 4000000 in
set_option maxRecDepth 100000 in
theorem rrequest_2 {K : Nat → Prop} {w : World} {s : Cn.S} (hlim : ∀ k, K k → k < w.heap.size) (d : ByteArray) (hd : d.size ≤ maxLen) (hq : 0 ≤ s.sq ∧ s.sq ≤ 255) (hb : Cn.bigAsk 2 d = false) (hm : Ru.refMay s.state 2 = true) :
    Calls Try.prog 53 #[rcV s, .int .i64 2, .string d] w (RPost3 K 9 (Cn.ask (s, Cn.r0) 2 d) (0) w) := by
  unfold rcV
  unfold maxLen at hd
  have h := RIn.nil (w := w) hlim
  obtain ⟨w1, q0⟩ : ∃ x : World, x = ((((w.alloc (.cells #[.int .i64 s.most, .int .i64 s.credit, .int .i64 s.state, .int .i64 s.sq, .int .i64 s.peer, .int .i64 s.cc, .int .i64 s.ms, .string s.data] 59)).alloc (.cells #[.int .i64 0, .int .i64 0, .int .i64 0, .int .i64 0, .int .i64 0, .int .i64 0, .int .i64 0, .string { data := #[] }] 59)).alloc (.cells #[.slice none 0 0, .slice none 0 0, .bool false, .bool false, .int .i64 0, .int .i64 0] 90)).alloc (.cells #[.slice none 0 0, .slice none 0 0, .bool false, .bool false, .int .i64 0, .int .i64 0] 90)) := ⟨_, rfl⟩
  have q_w1 := Lib.hid q0
  clear q0
  have HF : Hid (Fresh w w1) := by rw [q_w1.out]; exact ((((Touch.refl _ w).alloc _).alloc _).alloc _).alloc _
  have HBC1 : Hid (Blk w1 (w.heap.size) 59 [.int .i64 s.most, .int .i64 s.credit, .int .i64 s.state, .int .i64 s.sq, .int .i64 s.peer, .int .i64 s.cc, .int .i64 s.ms, .string s.data]) := by
    rw [q_w1.out]
    have := (((Blk.new w 59 [.int .i64 s.most, .int .i64 s.credit, .int .i64 s.state, .int .i64 s.sq, .int .i64 s.peer, .int .i64 s.cc, .int .i64 s.ms, .string s.data]).alloc (.cells #[.int .i64 0, .int .i64 0, .int .i64 0, .int .i64 0, .int .i64 0, .int .i64 0, .int .i64 0, .string { data := #[] }] 59)).alloc (.cells #[.slice none 0 0, .slice none 0 0, .bool false, .bool false, .int .i64 0, .int .i64 0] 90)).alloc (.cells #[.slice none 0 0, .slice none 0 0, .bool false, .bool false, .int .i64 0, .int .i64 0] 90)
    exact this
  have HGC : Hid (Kept K w w1 (w.heap.size)) := by rw [q_w1.out]; exact .inr ⟨by omega, by simp; try omega⟩
  have HBOC1 : Hid (Blk w1 (w.heap.size + 1) 59 [.int .i64 0, .int .i64 0, .int .i64 0, .int .i64 0, .int .i64 0, .int .i64 0, .int .i64 0, .string { data := #[] }]) := by
    rw [q_w1.out]
    have := ((Blk.new (w.alloc (.cells #[.int .i64 s.most, .int .i64 s.credit, .int .i64 s.state, .int .i64 s.sq, .int .i64 s.peer, .int .i64 s.cc, .int .i64 s.ms, .string s.data] 59)) 59 [.int .i64 0, .int .i64 0, .int .i64 0, .int .i64 0, .int .i64 0, .int .i64 0, .int .i64 0, .string { data := #[] }]).alloc (.cells #[.slice none 0 0, .slice none 0 0, .bool false, .bool false, .int .i64 0, .int .i64 0] 90)).alloc (.cells #[.slice none 0 0, .slice none 0 0, .bool false, .bool false, .int .i64 0, .int .i64 0] 90)
    rwa [show (w.alloc (.cells #[.int .i64 s.most, .int .i64 s.credit, .int .i64 s.state, .int .i64 s.sq, .int .i64 s.peer, .int .i64 s.cc, .int .i64 s.ms, .string s.data] 59)).heap.size = w.heap.size + 1 by simp] at this
  have HGOC : Hid (Kept K w w1 (w.heap.size + 1)) := by rw [q_w1.out]; exact .inr ⟨by omega, by simp; try omega⟩
  have HBOR1 : Hid (Blk w1 (w.heap.size + 1 + 1) 90 [.slice none 0 0, .slice none 0 0, .bool false, .bool false, .int .i64 0, .int .i64 0]) := by
    rw [q_w1.out]
    have := (Blk.new ((w.alloc (.cells #[.int .i64 s.most, .int .i64 s.credit, .int .i64 s.state, .int .i64 s.sq, .int .i64 s.peer, .int .i64 s.cc, .int .i64 s.ms, .string s.data] 59)).alloc (.cells #[.int .i64 0, .int .i64 0, .int .i64 0, .int .i64 0, .int .i64 0, .int .i64 0, .int .i64 0, .string { data := #[] }] 59)) 90 [.slice none 0 0, .slice none 0 0, .bool false, .bool false, .int .i64 0, .int .i64 0]).alloc (.cells #[.slice none 0 0, .slice none 0 0, .bool false, .bool false, .int .i64 0, .int .i64 0] 90)
    rwa [show ((w.alloc (.cells #[.int .i64 s.most, .int .i64 s.credit, .int .i64 s.state, .int .i64 s.sq, .int .i64 s.peer, .int .i64 s.cc, .int .i64 s.ms, .string s.data] 59)).alloc (.cells #[.int .i64 0, .int .i64 0, .int .i64 0, .int .i64 0, .int .i64 0, .int .i64 0, .int .i64 0, .string { data := #[] }] 59)).heap.size = w.heap.size + 1 + 1 by simp] at this
  have HGOR : Hid (Kept K w w1 (w.heap.size + 1 + 1)) := by rw [q_w1.out]; exact .inr ⟨by omega, by simp; try omega⟩
  have HBR1 : Hid (Blk w1 (w.heap.size + 1 + 1 + 1) 90 [.slice none 0 0, .slice none 0 0, .bool false, .bool false, .int .i64 0, .int .i64 0]) := by
    rw [q_w1.out]
    have := Blk.new (((w.alloc (.cells #[.int .i64 s.most, .int .i64 s.credit, .int .i64 s.state, .int .i64 s.sq, .int .i64 s.peer, .int .i64 s.cc, .int .i64 s.ms, .string s.data] 59)).alloc (.cells #[.int .i64 0, .int .i64 0, .int .i64 0, .int .i64 0, .int .i64 0, .int .i64 0, .int .i64 0, .string { data := #[] }] 59)).alloc (.cells #[.slice none 0 0, .slice none 0 0, .bool false, .bool false, .int .i64 0, .int .i64 0] 90)) 90 [.slice none 0 0, .slice none 0 0, .bool false, .bool false, .int .i64 0, .int .i64 0]
    rwa [show (((w.alloc (.cells #[.int .i64 s.most, .int .i64 s.credit, .int .i64 s.state, .int .i64 s.sq, .int .i64 s.peer, .int .i64 s.cc, .int .i64 s.ms, .string s.data] 59)).alloc (.cells #[.int .i64 0, .int .i64 0, .int .i64 0, .int .i64 0, .int .i64 0, .int .i64 0, .int .i64 0, .string { data := #[] }] 59)).alloc (.cells #[.slice none 0 0, .slice none 0 0, .bool false, .bool false, .int .i64 0, .int .i64 0] 90)).heap.size = w.heap.size + 1 + 1 + 1 by simp] at this
  have HGR : Hid (Kept K w w1 (w.heap.size + 1 + 1 + 1)) := by rw [q_w1.out]; exact .inr ⟨by omega, by simp; try omega⟩
  have HL : Hid (∀ k, K k → Kept K w w1 k) := by rw [q_w1.out]; exact fun k e => .inl e
  have HLIM : Hid (∀ k, K k → k < w.heap.size) := h.lim
  have HR1 := Lib.hid (h.keep HF.out)
  have HT1 : Hid (Touch (OfAct K) w w1) := HF.out.mono (fun _ _ e => e.elim)
  clear h hlim HF
  go_enter Try.func53, Try.ntmps53
  go_upto_region 2 with (fail)
  rw [← q_w1.out]
  clear q_w1
  generalize Kept K w w1 = K1 at *
  generalize w.heap.size = g at *
  have HM := Lib.hid hm
  have HMAY := Lib.hid (refMay_any s.state 2 w1)
  have HQ := Lib.hid hq
  clear hb hm hq
  obtain ⟨z64, h64⟩ : ∃ z : Bool, decide (64 < (d.size : Int)) = z := ⟨_, rfl⟩
  cases z64
  · have HN := HM
    have xC0 : w1.cell? ⟨g, 0, none⟩ = some (.int .i64 s.most) := HBC1.out.cell 0
    have xC1 : w1.cell? ⟨g, 1, none⟩ = some (.int .i64 s.credit) := HBC1.out.cell 1
    have xC2 : w1.cell? ⟨g, 2, none⟩ = some (.int .i64 s.state) := HBC1.out.cell 2
    have xC3 : w1.cell? ⟨g, 3, none⟩ = some (.int .i64 s.sq) := HBC1.out.cell 3
    have xC4 : w1.cell? ⟨g, 4, none⟩ = some (.int .i64 s.peer) := HBC1.out.cell 4
    have xC5 : w1.cell? ⟨g, 5, none⟩ = some (.int .i64 s.cc) := HBC1.out.cell 5
    have xC6 : w1.cell? ⟨g, 6, none⟩ = some (.int .i64 s.ms) := HBC1.out.cell 6
    have xC7 : w1.cell? ⟨g, 7, none⟩ = some (.string s.data) := HBC1.out.cell 7
    go_wp2_with fail
    refine HMAY.out.mono ?_
    rintro e w2 ⟨rfl, rfl⟩
    rw [HM.out]
    simp only
    clear xC0 xC1 xC2 xC3 xC4 xC5 xC6 xC7
    have xC0 : w1.cell? ⟨g, 0, none⟩ = some (.int .i64 s.most) := HBC1.out.cell 0
    have xC1 : w1.cell? ⟨g, 1, none⟩ = some (.int .i64 s.credit) := HBC1.out.cell 1
    have xC2 : w1.cell? ⟨g, 2, none⟩ = some (.int .i64 s.state) := HBC1.out.cell 2
    have xC3 : w1.cell? ⟨g, 3, none⟩ = some (.int .i64 s.sq) := HBC1.out.cell 3
    have xC4 : w1.cell? ⟨g, 4, none⟩ = some (.int .i64 s.peer) := HBC1.out.cell 4
    have xC5 : w1.cell? ⟨g, 5, none⟩ = some (.int .i64 s.cc) := HBC1.out.cell 5
    have xC6 : w1.cell? ⟨g, 6, none⟩ = some (.int .i64 s.ms) := HBC1.out.cell 6
    have xC7 : w1.cell? ⟨g, 7, none⟩ = some (.string s.data) := HBC1.out.cell 7
    have xR0 : w1.cell? ⟨g + 1 + 1 + 1, 0, none⟩ = some (.slice none 0 0) := HBR1.out.cell 0
    have xR1 : w1.cell? ⟨g + 1 + 1 + 1, 1, none⟩ = some (.slice none 0 0) := HBR1.out.cell 1
    have xR2 : w1.cell? ⟨g + 1 + 1 + 1, 2, none⟩ = some (.bool false) := HBR1.out.cell 2
    have xR3 : w1.cell? ⟨g + 1 + 1 + 1, 3, none⟩ = some (.bool false) := HBR1.out.cell 3
    have xR4 : w1.cell? ⟨g + 1 + 1 + 1, 4, none⟩ = some (.int .i64 0) := HBR1.out.cell 4
    have xR5 : w1.cell? ⟨g + 1 + 1 + 1, 5, none⟩ = some (.int .i64 0) := HBR1.out.cell 5
    go_wp2_with fail
    refine (rout_any (s := s) (r := Cn.r0) HR1.out (by omega) 2 s.peer false ByteArray.empty).mono ?_
    rintro e w2 ⟨P2, rfl, hr2, ht2⟩
    simp only [rcV, rrV]
    have HBC2 := Lib.hid (ht2.keptB HBC1.out HGC.out)
    have HBOC2 := Lib.hid (ht2.keptB HBOC1.out HGOC.out)
    have HBOR2 := Lib.hid (ht2.keptB HBOR1.out HGOR.out)
    have HBR2 := Lib.hid (ht2.keptB HBR1.out HGR.out)
    have HR2 := Lib.hid hr2
    have HT2 : Hid (Touch (OfAct K) w w2) := HT1.out.trans (ht2.loose HL.out) (fun _ _ e => e)
    clear xC0 xC1 xC2 xC3 xC4 xC5 xC6 xC7 xR0 xR1 xR2 xR3 xR4 xR5
    clear hr2 ht2 HBC1 HBOC1 HBOR1 HBR1 HR1 HT1
    obtain ⟨z, hz⟩ : ∃ q_, (Cn.out (s, Cn.r0) (Cn.unit_ 2 s.peer false ByteArray.empty)).2 = q_ := ⟨_, rfl⟩
    have HZz := Lib.hid hz
    rw [hz]
    rw [hz] at HR2
    clear hz
    have xC0 : w2.cell? ⟨g, 0, none⟩ = some (.int .i64 s.most) := HBC2.out.cell 0
    have xC1 : w2.cell? ⟨g, 1, none⟩ = some (.int .i64 s.credit) := HBC2.out.cell 1
    have xC2 : w2.cell? ⟨g, 2, none⟩ = some (.int .i64 s.state) := HBC2.out.cell 2
    have xC3 : w2.cell? ⟨g, 3, none⟩ = some (.int .i64 s.sq) := HBC2.out.cell 3
    have xC4 : w2.cell? ⟨g, 4, none⟩ = some (.int .i64 s.peer) := HBC2.out.cell 4
    have xC5 : w2.cell? ⟨g, 5, none⟩ = some (.int .i64 s.cc) := HBC2.out.cell 5
    have xC6 : w2.cell? ⟨g, 6, none⟩ = some (.int .i64 s.ms) := HBC2.out.cell 6
    have xC7 : w2.cell? ⟨g, 7, none⟩ = some (.string s.data) := HBC2.out.cell 7
    have xR0 : w2.cell? ⟨g + 1 + 1 + 1, 0, none⟩ = some (.slice none 0 0) := HBR2.out.cell 0
    have fR0 := HBR2.out.frozen 0
    have xR1 : w2.cell? ⟨g + 1 + 1 + 1, 1, none⟩ = some (.slice none 0 0) := HBR2.out.cell 1
    have fR1 := HBR2.out.frozen 1
    have xR2 : w2.cell? ⟨g + 1 + 1 + 1, 2, none⟩ = some (.bool false) := HBR2.out.cell 2
    have fR2 := HBR2.out.frozen 2
    have xR3 : w2.cell? ⟨g + 1 + 1 + 1, 3, none⟩ = some (.bool false) := HBR2.out.cell 3
    have fR3 := HBR2.out.frozen 3
    have xR4 : w2.cell? ⟨g + 1 + 1 + 1, 4, none⟩ = some (.int .i64 0) := HBR2.out.cell 4
    have fR4 := HBR2.out.frozen 4
    have xR5 : w2.cell? ⟨g + 1 + 1 + 1, 5, none⟩ = some (.int .i64 0) := HBR2.out.cell 5
    have fR5 := HBR2.out.frozen 5
    go_upto_region 13 with (fail)
    obtain ⟨w3, q0⟩ : ∃ x : World, x = ((((((w2.setCell ⟨g + 1 + 1 + 1, 0, none⟩ (.slice P2.A1 z.sigs.length P2.c1)).setCell ⟨g + 1 + 1 + 1, 1, none⟩ (.slice P2.A2 z.units.length P2.c2)).setCell ⟨g + 1 + 1 + 1, 2, none⟩ (.bool z.begins)).setCell ⟨g + 1 + 1 + 1, 3, none⟩ (.bool z.ends)).setCell ⟨g + 1 + 1 + 1, 4, none⟩ (.int .i64 z.ms)).setCell ⟨g + 1 + 1 + 1, 5, none⟩ (.int .i64 z.timer)) := ⟨_, rfl⟩
    have q_w3 := Lib.hid q0
    clear q0
    have htq3_1 : Touch (· = g + 1 + 1 + 1) w2 w3 := by rw [q_w3.out]; exact (((((((Touch.refl _ w2).st (S := (· = g + 1 + 1 + 1)) (u := .slice P2.A1 z.sigs.length P2.c1) (by exact rfl)).st (S := (· = g + 1 + 1 + 1)) (u := .slice P2.A2 z.units.length P2.c2) (by exact rfl)).st (S := (· = g + 1 + 1 + 1)) (u := .bool z.begins) (by exact rfl)).st (S := (· = g + 1 + 1 + 1)) (u := .bool z.ends) (by exact rfl)).st (S := (· = g + 1 + 1 + 1)) (u := .int .i64 z.ms) (by exact rfl)).st (S := (· = g + 1 + 1 + 1)) (u := .int .i64 z.timer) (by exact rfl))
    have hbq3_1 : Blk w3 (g + 1 + 1 + 1) 90 [.slice P2.A1 z.sigs.length P2.c1, .slice P2.A2 z.units.length P2.c2, .bool z.begins, .bool z.ends, .int .i64 z.ms, .int .i64 z.timer] := by rw [q_w3.out]; exact ((((((HBR2.out.set 0 (.slice P2.A1 z.sigs.length P2.c1)).set 1 (.slice P2.A2 z.units.length P2.c2)).set 2 (.bool z.begins)).set 3 (.bool z.ends)).set 4 (.int .i64 z.ms)).set 5 (.int .i64 z.timer))
    have hoq3_1C := htq3_1.blk HBC2.out (by intro e; have e : g = g + 1 + 1 + 1 := e; omega)
    have hoq3_1OC := htq3_1.blk HBOC2.out (by intro e; have e : g + 1 = g + 1 + 1 + 1 := e; omega)
    have hoq3_1OR := htq3_1.blk HBOR2.out (by intro e; have e : g + 1 + 1 = g + 1 + 1 + 1 := e; omega)
    have hrq3_1 := HR2.out.touch htq3_1 (fun k e => by have e : k = g + 1 + 1 + 1 := e; rw [e]; exact HGR.out)
    have hTq3_1 : Touch (OfAct K) w w3 := HT2.out.trans htq3_1 (fun k _ e => by have e : k = g + 1 + 1 + 1 := e; intro hk; have := HLIM.out k hk; omega)
    clear xC0 xC1 xC2 xC3 xC4 xC5 xC6 xC7 xR0 fR0 xR1 fR1 xR2 fR2 xR3 fR3 xR4 fR4 xR5 fR5
    have HBC3 : Hid (Blk w3 (g) 59 [.int .i64 s.most, .int .i64 s.credit, .int .i64 s.state, .int .i64 s.sq, .int .i64 s.peer, .int .i64 s.cc, .int .i64 s.ms, .string s.data]) := hoq3_1C
    have HBOC3 : Hid (Blk w3 (g + 1) 59 [.int .i64 0, .int .i64 0, .int .i64 0, .int .i64 0, .int .i64 0, .int .i64 0, .int .i64 0, .string { data := #[] }]) := hoq3_1OC
    have HBOR3 : Hid (Blk w3 (g + 1 + 1) 90 [.slice none 0 0, .slice none 0 0, .bool false, .bool false, .int .i64 0, .int .i64 0]) := hoq3_1OR
    have HBR3 : Hid (Blk w3 (g + 1 + 1 + 1) 90 [.slice P2.A1 z.sigs.length P2.c1, .slice P2.A2 z.units.length P2.c2, .bool z.begins, .bool z.ends, .int .i64 z.ms, .int .i64 z.timer]) := hbq3_1
    have HR3 := Lib.hid hrq3_1
    have HT3 : Hid (Touch (OfAct K) w w3) := hTq3_1
    clear HBC2 HBOC2 HBOR2 HBR2 HR2 HT2 htq3_1 hbq3_1 hrq3_1 hTq3_1 hoq3_1C hoq3_1OC hoq3_1OR
    rw [← q_w3.out]
    clear q_w3
    have xC0 : w3.cell? ⟨g, 0, none⟩ = some (.int .i64 s.most) := HBC3.out.cell 0
    have xC1 : w3.cell? ⟨g, 1, none⟩ = some (.int .i64 s.credit) := HBC3.out.cell 1
    have xC2 : w3.cell? ⟨g, 2, none⟩ = some (.int .i64 s.state) := HBC3.out.cell 2
    have xC3 : w3.cell? ⟨g, 3, none⟩ = some (.int .i64 s.sq) := HBC3.out.cell 3
    have xC4 : w3.cell? ⟨g, 4, none⟩ = some (.int .i64 s.peer) := HBC3.out.cell 4
    have xC5 : w3.cell? ⟨g, 5, none⟩ = some (.int .i64 s.cc) := HBC3.out.cell 5
    have xC6 : w3.cell? ⟨g, 6, none⟩ = some (.int .i64 s.ms) := HBC3.out.cell 6
    have xC7 : w3.cell? ⟨g, 7, none⟩ = some (.string s.data) := HBC3.out.cell 7
    have xR0 : w3.cell? ⟨g + 1 + 1 + 1, 0, none⟩ = some (.slice P2.A1 z.sigs.length P2.c1) := HBR3.out.cell 0
    have xR1 : w3.cell? ⟨g + 1 + 1 + 1, 1, none⟩ = some (.slice P2.A2 z.units.length P2.c2) := HBR3.out.cell 1
    have xR2 : w3.cell? ⟨g + 1 + 1 + 1, 2, none⟩ = some (.bool z.begins) := HBR3.out.cell 2
    have xR3 : w3.cell? ⟨g + 1 + 1 + 1, 3, none⟩ = some (.bool z.ends) := HBR3.out.cell 3
    have xR4 : w3.cell? ⟨g + 1 + 1 + 1, 4, none⟩ = some (.int .i64 z.ms) := HBR3.out.cell 4
    have xR5 : w3.cell? ⟨g + 1 + 1 + 1, 5, none⟩ = some (.int .i64 z.timer) := HBR3.out.cell 5
    go_wp2_with fail
    refine (rready_any (s := s) (r := z) HR3.out).mono ?_
    rintro e w4 ⟨P3, rfl, hr4, ht4⟩
    simp only [rcV, rrV]
    have HBC4 := Lib.hid (ht4.keptB HBC3.out HGC.out)
    have HBOC4 := Lib.hid (ht4.keptB HBOC3.out HGOC.out)
    have HBOR4 := Lib.hid (ht4.keptB HBOR3.out HGOR.out)
    have HBR4 := Lib.hid (ht4.keptB HBR3.out HGR.out)
    have HR4 := Lib.hid hr4
    have HT4 : Hid (Touch (OfAct K) w w4) := HT3.out.trans (ht4.loose HL.out) (fun _ _ e => e)
    clear xC0 xC1 xC2 xC3 xC4 xC5 xC6 xC7 xR0 xR1 xR2 xR3 xR4 xR5
    clear hr4 ht4 HBC3 HBOC3 HBOR3 HBR3 HR3 HT3
    obtain ⟨y, hy⟩ : ∃ q_, Cn.ready (s, z) = q_ := ⟨_, rfl⟩
    have HYy := Lib.hid hy
    rw [hy]
    rw [hy] at HR4
    clear hy
    have xC0 : w4.cell? ⟨g, 0, none⟩ = some (.int .i64 s.most) := HBC4.out.cell 0
    have fC0 := HBC4.out.frozen 0
    have xC1 : w4.cell? ⟨g, 1, none⟩ = some (.int .i64 s.credit) := HBC4.out.cell 1
    have fC1 := HBC4.out.frozen 1
    have xC2 : w4.cell? ⟨g, 2, none⟩ = some (.int .i64 s.state) := HBC4.out.cell 2
    have fC2 := HBC4.out.frozen 2
    have xC3 : w4.cell? ⟨g, 3, none⟩ = some (.int .i64 s.sq) := HBC4.out.cell 3
    have fC3 := HBC4.out.frozen 3
    have xC4 : w4.cell? ⟨g, 4, none⟩ = some (.int .i64 s.peer) := HBC4.out.cell 4
    have fC4 := HBC4.out.frozen 4
    have xC5 : w4.cell? ⟨g, 5, none⟩ = some (.int .i64 s.cc) := HBC4.out.cell 5
    have fC5 := HBC4.out.frozen 5
    have xC6 : w4.cell? ⟨g, 6, none⟩ = some (.int .i64 s.ms) := HBC4.out.cell 6
    have fC6 := HBC4.out.frozen 6
    have xC7 : w4.cell? ⟨g, 7, none⟩ = some (.string s.data) := HBC4.out.cell 7
    have fC7 := HBC4.out.frozen 7
    have xR0 : w4.cell? ⟨g + 1 + 1 + 1, 0, none⟩ = some (.slice P2.A1 z.sigs.length P2.c1) := HBR4.out.cell 0
    have fR0 := HBR4.out.frozen 0
    have xR1 : w4.cell? ⟨g + 1 + 1 + 1, 1, none⟩ = some (.slice P2.A2 z.units.length P2.c2) := HBR4.out.cell 1
    have fR1 := HBR4.out.frozen 1
    have xR2 : w4.cell? ⟨g + 1 + 1 + 1, 2, none⟩ = some (.bool z.begins) := HBR4.out.cell 2
    have fR2 := HBR4.out.frozen 2
    have xR3 : w4.cell? ⟨g + 1 + 1 + 1, 3, none⟩ = some (.bool z.ends) := HBR4.out.cell 3
    have fR3 := HBR4.out.frozen 3
    have xR4 : w4.cell? ⟨g + 1 + 1 + 1, 4, none⟩ = some (.int .i64 z.ms) := HBR4.out.cell 4
    have fR4 := HBR4.out.frozen 4
    have xR5 : w4.cell? ⟨g + 1 + 1 + 1, 5, none⟩ = some (.int .i64 z.timer) := HBR4.out.cell 5
    have fR5 := HBR4.out.frozen 5
    have HAE : Hid (Cn.ask (s, Cn.r0) 2 d = y) := by rw [← HYy.out, ← HZz.out]; rfl
    go_wp2
    have htq5_1 : Touch (· = g) w4 ((((((((w4.setCell ⟨g, 0, none⟩ (.int .i64 y.1.most)).setCell ⟨g, 1, none⟩ (.int .i64 y.1.credit)).setCell ⟨g, 2, none⟩ (.int .i64 y.1.state)).setCell ⟨g, 3, none⟩ (.int .i64 y.1.sq)).setCell ⟨g, 4, none⟩ (.int .i64 y.1.peer)).setCell ⟨g, 5, none⟩ (.int .i64 y.1.cc)).setCell ⟨g, 6, none⟩ (.int .i64 y.1.ms)).setCell ⟨g, 7, none⟩ (.string y.1.data)) := (((((((((Touch.refl _ w4).st (S := (· = g)) (u := .int .i64 y.1.most) (by exact rfl)).st (S := (· = g)) (u := .int .i64 y.1.credit) (by exact rfl)).st (S := (· = g)) (u := .int .i64 y.1.state) (by exact rfl)).st (S := (· = g)) (u := .int .i64 y.1.sq) (by exact rfl)).st (S := (· = g)) (u := .int .i64 y.1.peer) (by exact rfl)).st (S := (· = g)) (u := .int .i64 y.1.cc) (by exact rfl)).st (S := (· = g)) (u := .int .i64 y.1.ms) (by exact rfl)).st (S := (· = g)) (u := .string y.1.data) (by exact rfl))
    have hbq5_1 : Blk ((((((((w4.setCell ⟨g, 0, none⟩ (.int .i64 y.1.most)).setCell ⟨g, 1, none⟩ (.int .i64 y.1.credit)).setCell ⟨g, 2, none⟩ (.int .i64 y.1.state)).setCell ⟨g, 3, none⟩ (.int .i64 y.1.sq)).setCell ⟨g, 4, none⟩ (.int .i64 y.1.peer)).setCell ⟨g, 5, none⟩ (.int .i64 y.1.cc)).setCell ⟨g, 6, none⟩ (.int .i64 y.1.ms)).setCell ⟨g, 7, none⟩ (.string y.1.data)) (g) 59 [.int .i64 y.1.most, .int .i64 y.1.credit, .int .i64 y.1.state, .int .i64 y.1.sq, .int .i64 y.1.peer, .int .i64 y.1.cc, .int .i64 y.1.ms, .string y.1.data] := ((((((((HBC4.out.set 0 (.int .i64 y.1.most)).set 1 (.int .i64 y.1.credit)).set 2 (.int .i64 y.1.state)).set 3 (.int .i64 y.1.sq)).set 4 (.int .i64 y.1.peer)).set 5 (.int .i64 y.1.cc)).set 6 (.int .i64 y.1.ms)).set 7 (.string y.1.data))
    have hoq5_1OC := htq5_1.blk HBOC4.out (by intro e; have e : g + 1 = g := e; omega)
    have hoq5_1OR := htq5_1.blk HBOR4.out (by intro e; have e : g + 1 + 1 = g := e; omega)
    have hoq5_1R := htq5_1.blk HBR4.out (by intro e; have e : g + 1 + 1 + 1 = g := e; omega)
    have hrq5_1 := HR4.out.touch htq5_1 (fun k e => by have e : k = g := e; rw [e]; exact HGC.out)
    have hTq5_1 : Touch (OfAct K) w ((((((((w4.setCell ⟨g, 0, none⟩ (.int .i64 y.1.most)).setCell ⟨g, 1, none⟩ (.int .i64 y.1.credit)).setCell ⟨g, 2, none⟩ (.int .i64 y.1.state)).setCell ⟨g, 3, none⟩ (.int .i64 y.1.sq)).setCell ⟨g, 4, none⟩ (.int .i64 y.1.peer)).setCell ⟨g, 5, none⟩ (.int .i64 y.1.cc)).setCell ⟨g, 6, none⟩ (.int .i64 y.1.ms)).setCell ⟨g, 7, none⟩ (.string y.1.data)) := HT4.out.trans htq5_1 (fun k _ e => by have e : k = g := e; intro hk; have := HLIM.out k hk; omega)
    obtain ⟨w5, q0⟩ : ∃ x : World, x = ((((((((((((((w4.setCell ⟨g, 0, none⟩ (.int .i64 y.1.most)).setCell ⟨g, 1, none⟩ (.int .i64 y.1.credit)).setCell ⟨g, 2, none⟩ (.int .i64 y.1.state)).setCell ⟨g, 3, none⟩ (.int .i64 y.1.sq)).setCell ⟨g, 4, none⟩ (.int .i64 y.1.peer)).setCell ⟨g, 5, none⟩ (.int .i64 y.1.cc)).setCell ⟨g, 6, none⟩ (.int .i64 y.1.ms)).setCell ⟨g, 7, none⟩ (.string y.1.data)).setCell ⟨g + 1 + 1 + 1, 0, none⟩ (.slice P3.A1 y.2.sigs.length P3.c1)).setCell ⟨g + 1 + 1 + 1, 1, none⟩ (.slice P3.A2 y.2.units.length P3.c2)).setCell ⟨g + 1 + 1 + 1, 2, none⟩ (.bool y.2.begins)).setCell ⟨g + 1 + 1 + 1, 3, none⟩ (.bool y.2.ends)).setCell ⟨g + 1 + 1 + 1, 4, none⟩ (.int .i64 y.2.ms)).setCell ⟨g + 1 + 1 + 1, 5, none⟩ (.int .i64 y.2.timer)) := ⟨_, rfl⟩
    have q_w5 := Lib.hid q0
    clear q0
    have htq5_2 : Touch (· = g + 1 + 1 + 1) ((((((((w4.setCell ⟨g, 0, none⟩ (.int .i64 y.1.most)).setCell ⟨g, 1, none⟩ (.int .i64 y.1.credit)).setCell ⟨g, 2, none⟩ (.int .i64 y.1.state)).setCell ⟨g, 3, none⟩ (.int .i64 y.1.sq)).setCell ⟨g, 4, none⟩ (.int .i64 y.1.peer)).setCell ⟨g, 5, none⟩ (.int .i64 y.1.cc)).setCell ⟨g, 6, none⟩ (.int .i64 y.1.ms)).setCell ⟨g, 7, none⟩ (.string y.1.data)) w5 := by rw [q_w5.out]; exact (((((((Touch.refl _ ((((((((w4.setCell ⟨g, 0, none⟩ (.int .i64 y.1.most)).setCell ⟨g, 1, none⟩ (.int .i64 y.1.credit)).setCell ⟨g, 2, none⟩ (.int .i64 y.1.state)).setCell ⟨g, 3, none⟩ (.int .i64 y.1.sq)).setCell ⟨g, 4, none⟩ (.int .i64 y.1.peer)).setCell ⟨g, 5, none⟩ (.int .i64 y.1.cc)).setCell ⟨g, 6, none⟩ (.int .i64 y.1.ms)).setCell ⟨g, 7, none⟩ (.string y.1.data))).st (S := (· = g + 1 + 1 + 1)) (u := .slice P3.A1 y.2.sigs.length P3.c1) (by exact rfl)).st (S := (· = g + 1 + 1 + 1)) (u := .slice P3.A2 y.2.units.length P3.c2) (by exact rfl)).st (S := (· = g + 1 + 1 + 1)) (u := .bool y.2.begins) (by exact rfl)).st (S := (· = g + 1 + 1 + 1)) (u := .bool y.2.ends) (by exact rfl)).st (S := (· = g + 1 + 1 + 1)) (u := .int .i64 y.2.ms) (by exact rfl)).st (S := (· = g + 1 + 1 + 1)) (u := .int .i64 y.2.timer) (by exact rfl))
    have hbq5_2 : Blk w5 (g + 1 + 1 + 1) 90 [.slice P3.A1 y.2.sigs.length P3.c1, .slice P3.A2 y.2.units.length P3.c2, .bool y.2.begins, .bool y.2.ends, .int .i64 y.2.ms, .int .i64 y.2.timer] := by rw [q_w5.out]; exact ((((((hoq5_1R.set 0 (.slice P3.A1 y.2.sigs.length P3.c1)).set 1 (.slice P3.A2 y.2.units.length P3.c2)).set 2 (.bool y.2.begins)).set 3 (.bool y.2.ends)).set 4 (.int .i64 y.2.ms)).set 5 (.int .i64 y.2.timer))
    have hoq5_2C := htq5_2.blk hbq5_1 (by intro e; have e : g = g + 1 + 1 + 1 := e; omega)
    have hoq5_2OC := htq5_2.blk hoq5_1OC (by intro e; have e : g + 1 = g + 1 + 1 + 1 := e; omega)
    have hoq5_2OR := htq5_2.blk hoq5_1OR (by intro e; have e : g + 1 + 1 = g + 1 + 1 + 1 := e; omega)
    have hrq5_2 := hrq5_1.touch htq5_2 (fun k e => by have e : k = g + 1 + 1 + 1 := e; rw [e]; exact HGR.out)
    have hTq5_2 : Touch (OfAct K) w w5 := hTq5_1.trans htq5_2 (fun k _ e => by have e : k = g + 1 + 1 + 1 := e; intro hk; have := HLIM.out k hk; omega)
    clear xC0 fC0 xC1 fC1 xC2 fC2 xC3 fC3 xC4 fC4 xC5 fC5 xC6 fC6 xC7 fC7 xR0 fR0 xR1 fR1 xR2 fR2 xR3 fR3 xR4 fR4 xR5 fR5
    have HBC5 : Hid (Blk w5 (g) 59 [.int .i64 y.1.most, .int .i64 y.1.credit, .int .i64 y.1.state, .int .i64 y.1.sq, .int .i64 y.1.peer, .int .i64 y.1.cc, .int .i64 y.1.ms, .string y.1.data]) := hoq5_2C
    have HBOC5 : Hid (Blk w5 (g + 1) 59 [.int .i64 0, .int .i64 0, .int .i64 0, .int .i64 0, .int .i64 0, .int .i64 0, .int .i64 0, .string { data := #[] }]) := hoq5_2OC
    have HBOR5 : Hid (Blk w5 (g + 1 + 1) 90 [.slice none 0 0, .slice none 0 0, .bool false, .bool false, .int .i64 0, .int .i64 0]) := hoq5_2OR
    have HBR5 : Hid (Blk w5 (g + 1 + 1 + 1) 90 [.slice P3.A1 y.2.sigs.length P3.c1, .slice P3.A2 y.2.units.length P3.c2, .bool y.2.begins, .bool y.2.ends, .int .i64 y.2.ms, .int .i64 y.2.timer]) := hbq5_2
    have HR5 := Lib.hid hrq5_2
    have HT5 : Hid (Touch (OfAct K) w w5) := hTq5_2
    clear HBC4 HBOC4 HBOR4 HBR4 HR4 HT4 htq5_1 hbq5_1 hrq5_1 hTq5_1 hoq5_1OC hoq5_1OR hoq5_1R htq5_2 hbq5_2 hrq5_2 hTq5_2 hoq5_2C hoq5_2OC hoq5_2OR
    rw [← q_w5.out]
    clear q_w5
    have xC0 : w5.cell? ⟨g, 0, none⟩ = some (.int .i64 y.1.most) := HBC5.out.cell 0
    have xC1 : w5.cell? ⟨g, 1, none⟩ = some (.int .i64 y.1.credit) := HBC5.out.cell 1
    have xC2 : w5.cell? ⟨g, 2, none⟩ = some (.int .i64 y.1.state) := HBC5.out.cell 2
    have xC3 : w5.cell? ⟨g, 3, none⟩ = some (.int .i64 y.1.sq) := HBC5.out.cell 3
    have xC4 : w5.cell? ⟨g, 4, none⟩ = some (.int .i64 y.1.peer) := HBC5.out.cell 4
    have xC5 : w5.cell? ⟨g, 5, none⟩ = some (.int .i64 y.1.cc) := HBC5.out.cell 5
    have xC6 : w5.cell? ⟨g, 6, none⟩ = some (.int .i64 y.1.ms) := HBC5.out.cell 6
    have xC7 : w5.cell? ⟨g, 7, none⟩ = some (.string y.1.data) := HBC5.out.cell 7
    have xR0 : w5.cell? ⟨g + 1 + 1 + 1, 0, none⟩ = some (.slice P3.A1 y.2.sigs.length P3.c1) := HBR5.out.cell 0
    have xR1 : w5.cell? ⟨g + 1 + 1 + 1, 1, none⟩ = some (.slice P3.A2 y.2.units.length P3.c2) := HBR5.out.cell 1
    have xR2 : w5.cell? ⟨g + 1 + 1 + 1, 2, none⟩ = some (.bool y.2.begins) := HBR5.out.cell 2
    have xR3 : w5.cell? ⟨g + 1 + 1 + 1, 3, none⟩ = some (.bool y.2.ends) := HBR5.out.cell 3
    have xR4 : w5.cell? ⟨g + 1 + 1 + 1, 4, none⟩ = some (.int .i64 y.2.ms) := HBR5.out.cell 4
    have xR5 : w5.cell? ⟨g + 1 + 1 + 1, 5, none⟩ = some (.int .i64 y.2.timer) := HBR5.out.cell 5
    have xOC0 : w5.cell? ⟨g + 1, 0, none⟩ = some (.int .i64 0) := HBOC5.out.cell 0
    have fOC0 := HBOC5.out.frozen 0
    have xOC1 : w5.cell? ⟨g + 1, 1, none⟩ = some (.int .i64 0) := HBOC5.out.cell 1
    have fOC1 := HBOC5.out.frozen 1
    have xOC2 : w5.cell? ⟨g + 1, 2, none⟩ = some (.int .i64 0) := HBOC5.out.cell 2
    have fOC2 := HBOC5.out.frozen 2
    have xOC3 : w5.cell? ⟨g + 1, 3, none⟩ = some (.int .i64 0) := HBOC5.out.cell 3
    have fOC3 := HBOC5.out.frozen 3
    have xOC4 : w5.cell? ⟨g + 1, 4, none⟩ = some (.int .i64 0) := HBOC5.out.cell 4
    have fOC4 := HBOC5.out.frozen 4
    have xOC5 : w5.cell? ⟨g + 1, 5, none⟩ = some (.int .i64 0) := HBOC5.out.cell 5
    have fOC5 := HBOC5.out.frozen 5
    have xOC6 : w5.cell? ⟨g + 1, 6, none⟩ = some (.int .i64 0) := HBOC5.out.cell 6
    have fOC6 := HBOC5.out.frozen 6
    have xOC7 : w5.cell? ⟨g + 1, 7, none⟩ = some (.string { data := #[] }) := HBOC5.out.cell 7
    have fOC7 := HBOC5.out.frozen 7
    have xOR0 : w5.cell? ⟨g + 1 + 1, 0, none⟩ = some (.slice none 0 0) := HBOR5.out.cell 0
    have fOR0 := HBOR5.out.frozen 0
    have xOR1 : w5.cell? ⟨g + 1 + 1, 1, none⟩ = some (.slice none 0 0) := HBOR5.out.cell 1
    have fOR1 := HBOR5.out.frozen 1
    have xOR2 : w5.cell? ⟨g + 1 + 1, 2, none⟩ = some (.bool false) := HBOR5.out.cell 2
    have fOR2 := HBOR5.out.frozen 2
    have xOR3 : w5.cell? ⟨g + 1 + 1, 3, none⟩ = some (.bool false) := HBOR5.out.cell 3
    have fOR3 := HBOR5.out.frozen 3
    have xOR4 : w5.cell? ⟨g + 1 + 1, 4, none⟩ = some (.int .i64 0) := HBOR5.out.cell 4
    have fOR4 := HBOR5.out.frozen 4
    have xOR5 : w5.cell? ⟨g + 1 + 1, 5, none⟩ = some (.int .i64 0) := HBOR5.out.cell 5
    have fOR5 := HBOR5.out.frozen 5
    go_region
    have htq6_1 : Touch (· = g + 1) w5 ((((((((w5.setCell ⟨g + 1, 0, none⟩ (.int .i64 y.1.most)).setCell ⟨g + 1, 1, none⟩ (.int .i64 y.1.credit)).setCell ⟨g + 1, 2, none⟩ (.int .i64 y.1.state)).setCell ⟨g + 1, 3, none⟩ (.int .i64 y.1.sq)).setCell ⟨g + 1, 4, none⟩ (.int .i64 y.1.peer)).setCell ⟨g + 1, 5, none⟩ (.int .i64 y.1.cc)).setCell ⟨g + 1, 6, none⟩ (.int .i64 y.1.ms)).setCell ⟨g + 1, 7, none⟩ (.string y.1.data)) := (((((((((Touch.refl _ w5).st (S := (· = g + 1)) (u := .int .i64 y.1.most) (by exact rfl)).st (S := (· = g + 1)) (u := .int .i64 y.1.credit) (by exact rfl)).st (S := (· = g + 1)) (u := .int .i64 y.1.state) (by exact rfl)).st (S := (· = g + 1)) (u := .int .i64 y.1.sq) (by exact rfl)).st (S := (· = g + 1)) (u := .int .i64 y.1.peer) (by exact rfl)).st (S := (· = g + 1)) (u := .int .i64 y.1.cc) (by exact rfl)).st (S := (· = g + 1)) (u := .int .i64 y.1.ms) (by exact rfl)).st (S := (· = g + 1)) (u := .string y.1.data) (by exact rfl))
    have hbq6_1 : Blk ((((((((w5.setCell ⟨g + 1, 0, none⟩ (.int .i64 y.1.most)).setCell ⟨g + 1, 1, none⟩ (.int .i64 y.1.credit)).setCell ⟨g + 1, 2, none⟩ (.int .i64 y.1.state)).setCell ⟨g + 1, 3, none⟩ (.int .i64 y.1.sq)).setCell ⟨g + 1, 4, none⟩ (.int .i64 y.1.peer)).setCell ⟨g + 1, 5, none⟩ (.int .i64 y.1.cc)).setCell ⟨g + 1, 6, none⟩ (.int .i64 y.1.ms)).setCell ⟨g + 1, 7, none⟩ (.string y.1.data)) (g + 1) 59 [.int .i64 y.1.most, .int .i64 y.1.credit, .int .i64 y.1.state, .int .i64 y.1.sq, .int .i64 y.1.peer, .int .i64 y.1.cc, .int .i64 y.1.ms, .string y.1.data] := ((((((((HBOC5.out.set 0 (.int .i64 y.1.most)).set 1 (.int .i64 y.1.credit)).set 2 (.int .i64 y.1.state)).set 3 (.int .i64 y.1.sq)).set 4 (.int .i64 y.1.peer)).set 5 (.int .i64 y.1.cc)).set 6 (.int .i64 y.1.ms)).set 7 (.string y.1.data))
    have hoq6_1C := htq6_1.blk HBC5.out (by intro e; have e : g = g + 1 := e; omega)
    have hoq6_1OR := htq6_1.blk HBOR5.out (by intro e; have e : g + 1 + 1 = g + 1 := e; omega)
    have hoq6_1R := htq6_1.blk HBR5.out (by intro e; have e : g + 1 + 1 + 1 = g + 1 := e; omega)
    have hrq6_1 := HR5.out.touch htq6_1 (fun k e => by have e : k = g + 1 := e; rw [e]; exact HGOC.out)
    have hTq6_1 : Touch (OfAct K) w ((((((((w5.setCell ⟨g + 1, 0, none⟩ (.int .i64 y.1.most)).setCell ⟨g + 1, 1, none⟩ (.int .i64 y.1.credit)).setCell ⟨g + 1, 2, none⟩ (.int .i64 y.1.state)).setCell ⟨g + 1, 3, none⟩ (.int .i64 y.1.sq)).setCell ⟨g + 1, 4, none⟩ (.int .i64 y.1.peer)).setCell ⟨g + 1, 5, none⟩ (.int .i64 y.1.cc)).setCell ⟨g + 1, 6, none⟩ (.int .i64 y.1.ms)).setCell ⟨g + 1, 7, none⟩ (.string y.1.data)) := HT5.out.trans htq6_1 (fun k _ e => by have e : k = g + 1 := e; intro hk; have := HLIM.out k hk; omega)
    have htq6_2 : Touch (· = g + 1 + 1) ((((((((w5.setCell ⟨g + 1, 0, none⟩ (.int .i64 y.1.most)).setCell ⟨g + 1, 1, none⟩ (.int .i64 y.1.credit)).setCell ⟨g + 1, 2, none⟩ (.int .i64 y.1.state)).setCell ⟨g + 1, 3, none⟩ (.int .i64 y.1.sq)).setCell ⟨g + 1, 4, none⟩ (.int .i64 y.1.peer)).setCell ⟨g + 1, 5, none⟩ (.int .i64 y.1.cc)).setCell ⟨g + 1, 6, none⟩ (.int .i64 y.1.ms)).setCell ⟨g + 1, 7, none⟩ (.string y.1.data)) ((((((((((((((w5.setCell ⟨g + 1, 0, none⟩ (.int .i64 y.1.most)).setCell ⟨g + 1, 1, none⟩ (.int .i64 y.1.credit)).setCell ⟨g + 1, 2, none⟩ (.int .i64 y.1.state)).setCell ⟨g + 1, 3, none⟩ (.int .i64 y.1.sq)).setCell ⟨g + 1, 4, none⟩ (.int .i64 y.1.peer)).setCell ⟨g + 1, 5, none⟩ (.int .i64 y.1.cc)).setCell ⟨g + 1, 6, none⟩ (.int .i64 y.1.ms)).setCell ⟨g + 1, 7, none⟩ (.string y.1.data)).setCell ⟨g + 1 + 1, 0, none⟩ (.slice P3.A1 y.2.sigs.length P3.c1)).setCell ⟨g + 1 + 1, 1, none⟩ (.slice P3.A2 y.2.units.length P3.c2)).setCell ⟨g + 1 + 1, 2, none⟩ (.bool y.2.begins)).setCell ⟨g + 1 + 1, 3, none⟩ (.bool y.2.ends)).setCell ⟨g + 1 + 1, 4, none⟩ (.int .i64 y.2.ms)).setCell ⟨g + 1 + 1, 5, none⟩ (.int .i64 y.2.timer)) := (((((((Touch.refl _ ((((((((w5.setCell ⟨g + 1, 0, none⟩ (.int .i64 y.1.most)).setCell ⟨g + 1, 1, none⟩ (.int .i64 y.1.credit)).setCell ⟨g + 1, 2, none⟩ (.int .i64 y.1.state)).setCell ⟨g + 1, 3, none⟩ (.int .i64 y.1.sq)).setCell ⟨g + 1, 4, none⟩ (.int .i64 y.1.peer)).setCell ⟨g + 1, 5, none⟩ (.int .i64 y.1.cc)).setCell ⟨g + 1, 6, none⟩ (.int .i64 y.1.ms)).setCell ⟨g + 1, 7, none⟩ (.string y.1.data))).st (S := (· = g + 1 + 1)) (u := .slice P3.A1 y.2.sigs.length P3.c1) (by exact rfl)).st (S := (· = g + 1 + 1)) (u := .slice P3.A2 y.2.units.length P3.c2) (by exact rfl)).st (S := (· = g + 1 + 1)) (u := .bool y.2.begins) (by exact rfl)).st (S := (· = g + 1 + 1)) (u := .bool y.2.ends) (by exact rfl)).st (S := (· = g + 1 + 1)) (u := .int .i64 y.2.ms) (by exact rfl)).st (S := (· = g + 1 + 1)) (u := .int .i64 y.2.timer) (by exact rfl))
    have hbq6_2 : Blk ((((((((((((((w5.setCell ⟨g + 1, 0, none⟩ (.int .i64 y.1.most)).setCell ⟨g + 1, 1, none⟩ (.int .i64 y.1.credit)).setCell ⟨g + 1, 2, none⟩ (.int .i64 y.1.state)).setCell ⟨g + 1, 3, none⟩ (.int .i64 y.1.sq)).setCell ⟨g + 1, 4, none⟩ (.int .i64 y.1.peer)).setCell ⟨g + 1, 5, none⟩ (.int .i64 y.1.cc)).setCell ⟨g + 1, 6, none⟩ (.int .i64 y.1.ms)).setCell ⟨g + 1, 7, none⟩ (.string y.1.data)).setCell ⟨g + 1 + 1, 0, none⟩ (.slice P3.A1 y.2.sigs.length P3.c1)).setCell ⟨g + 1 + 1, 1, none⟩ (.slice P3.A2 y.2.units.length P3.c2)).setCell ⟨g + 1 + 1, 2, none⟩ (.bool y.2.begins)).setCell ⟨g + 1 + 1, 3, none⟩ (.bool y.2.ends)).setCell ⟨g + 1 + 1, 4, none⟩ (.int .i64 y.2.ms)).setCell ⟨g + 1 + 1, 5, none⟩ (.int .i64 y.2.timer)) (g + 1 + 1) 90 [.slice P3.A1 y.2.sigs.length P3.c1, .slice P3.A2 y.2.units.length P3.c2, .bool y.2.begins, .bool y.2.ends, .int .i64 y.2.ms, .int .i64 y.2.timer] := ((((((hoq6_1OR.set 0 (.slice P3.A1 y.2.sigs.length P3.c1)).set 1 (.slice P3.A2 y.2.units.length P3.c2)).set 2 (.bool y.2.begins)).set 3 (.bool y.2.ends)).set 4 (.int .i64 y.2.ms)).set 5 (.int .i64 y.2.timer))
    have hoq6_2C := htq6_2.blk hoq6_1C (by intro e; have e : g = g + 1 + 1 := e; omega)
    have hoq6_2OC := htq6_2.blk hbq6_1 (by intro e; have e : g + 1 = g + 1 + 1 := e; omega)
    have hoq6_2R := htq6_2.blk hoq6_1R (by intro e; have e : g + 1 + 1 + 1 = g + 1 + 1 := e; omega)
    have hrq6_2 := hrq6_1.touch htq6_2 (fun k e => by have e : k = g + 1 + 1 := e; rw [e]; exact HGOR.out)
    have hTq6_2 : Touch (OfAct K) w ((((((((((((((w5.setCell ⟨g + 1, 0, none⟩ (.int .i64 y.1.most)).setCell ⟨g + 1, 1, none⟩ (.int .i64 y.1.credit)).setCell ⟨g + 1, 2, none⟩ (.int .i64 y.1.state)).setCell ⟨g + 1, 3, none⟩ (.int .i64 y.1.sq)).setCell ⟨g + 1, 4, none⟩ (.int .i64 y.1.peer)).setCell ⟨g + 1, 5, none⟩ (.int .i64 y.1.cc)).setCell ⟨g + 1, 6, none⟩ (.int .i64 y.1.ms)).setCell ⟨g + 1, 7, none⟩ (.string y.1.data)).setCell ⟨g + 1 + 1, 0, none⟩ (.slice P3.A1 y.2.sigs.length P3.c1)).setCell ⟨g + 1 + 1, 1, none⟩ (.slice P3.A2 y.2.units.length P3.c2)).setCell ⟨g + 1 + 1, 2, none⟩ (.bool y.2.begins)).setCell ⟨g + 1 + 1, 3, none⟩ (.bool y.2.ends)).setCell ⟨g + 1 + 1, 4, none⟩ (.int .i64 y.2.ms)).setCell ⟨g + 1 + 1, 5, none⟩ (.int .i64 y.2.timer)) := hTq6_1.trans htq6_2 (fun k _ e => by have e : k = g + 1 + 1 := e; intro hk; have := HLIM.out k hk; omega)
    clear xC0 xC1 xC2 xC3 xC4 xC5 xC6 xC7 xR0 xR1 xR2 xR3 xR4 xR5 xOC0 fOC0 xOC1 fOC1 xOC2 fOC2 xOC3 fOC3 xOC4 fOC4 xOC5 fOC5 xOC6 fOC6 xOC7 fOC7 xOR0 fOR0 xOR1 fOR1 xOR2 fOR2 xOR3 fOR3 xOR4 fOR4 xOR5 fOR5
    have HBC6 : Hid (Blk ((((((((((((((w5.setCell ⟨g + 1, 0, none⟩ (.int .i64 y.1.most)).setCell ⟨g + 1, 1, none⟩ (.int .i64 y.1.credit)).setCell ⟨g + 1, 2, none⟩ (.int .i64 y.1.state)).setCell ⟨g + 1, 3, none⟩ (.int .i64 y.1.sq)).setCell ⟨g + 1, 4, none⟩ (.int .i64 y.1.peer)).setCell ⟨g + 1, 5, none⟩ (.int .i64 y.1.cc)).setCell ⟨g + 1, 6, none⟩ (.int .i64 y.1.ms)).setCell ⟨g + 1, 7, none⟩ (.string y.1.data)).setCell ⟨g + 1 + 1, 0, none⟩ (.slice P3.A1 y.2.sigs.length P3.c1)).setCell ⟨g + 1 + 1, 1, none⟩ (.slice P3.A2 y.2.units.length P3.c2)).setCell ⟨g + 1 + 1, 2, none⟩ (.bool y.2.begins)).setCell ⟨g + 1 + 1, 3, none⟩ (.bool y.2.ends)).setCell ⟨g + 1 + 1, 4, none⟩ (.int .i64 y.2.ms)).setCell ⟨g + 1 + 1, 5, none⟩ (.int .i64 y.2.timer)).drew (g) 59 [.int .i64 y.1.most, .int .i64 y.1.credit, .int .i64 y.1.state, .int .i64 y.1.sq, .int .i64 y.1.peer, .int .i64 y.1.cc, .int .i64 y.1.ms, .string y.1.data]) := Blk.drew hoq6_2C
    have HBOC6 : Hid (Blk ((((((((((((((w5.setCell ⟨g + 1, 0, none⟩ (.int .i64 y.1.most)).setCell ⟨g + 1, 1, none⟩ (.int .i64 y.1.credit)).setCell ⟨g + 1, 2, none⟩ (.int .i64 y.1.state)).setCell ⟨g + 1, 3, none⟩ (.int .i64 y.1.sq)).setCell ⟨g + 1, 4, none⟩ (.int .i64 y.1.peer)).setCell ⟨g + 1, 5, none⟩ (.int .i64 y.1.cc)).setCell ⟨g + 1, 6, none⟩ (.int .i64 y.1.ms)).setCell ⟨g + 1, 7, none⟩ (.string y.1.data)).setCell ⟨g + 1 + 1, 0, none⟩ (.slice P3.A1 y.2.sigs.length P3.c1)).setCell ⟨g + 1 + 1, 1, none⟩ (.slice P3.A2 y.2.units.length P3.c2)).setCell ⟨g + 1 + 1, 2, none⟩ (.bool y.2.begins)).setCell ⟨g + 1 + 1, 3, none⟩ (.bool y.2.ends)).setCell ⟨g + 1 + 1, 4, none⟩ (.int .i64 y.2.ms)).setCell ⟨g + 1 + 1, 5, none⟩ (.int .i64 y.2.timer)).drew (g + 1) 59 [.int .i64 y.1.most, .int .i64 y.1.credit, .int .i64 y.1.state, .int .i64 y.1.sq, .int .i64 y.1.peer, .int .i64 y.1.cc, .int .i64 y.1.ms, .string y.1.data]) := Blk.drew hoq6_2OC
    have HBOR6 : Hid (Blk ((((((((((((((w5.setCell ⟨g + 1, 0, none⟩ (.int .i64 y.1.most)).setCell ⟨g + 1, 1, none⟩ (.int .i64 y.1.credit)).setCell ⟨g + 1, 2, none⟩ (.int .i64 y.1.state)).setCell ⟨g + 1, 3, none⟩ (.int .i64 y.1.sq)).setCell ⟨g + 1, 4, none⟩ (.int .i64 y.1.peer)).setCell ⟨g + 1, 5, none⟩ (.int .i64 y.1.cc)).setCell ⟨g + 1, 6, none⟩ (.int .i64 y.1.ms)).setCell ⟨g + 1, 7, none⟩ (.string y.1.data)).setCell ⟨g + 1 + 1, 0, none⟩ (.slice P3.A1 y.2.sigs.length P3.c1)).setCell ⟨g + 1 + 1, 1, none⟩ (.slice P3.A2 y.2.units.length P3.c2)).setCell ⟨g + 1 + 1, 2, none⟩ (.bool y.2.begins)).setCell ⟨g + 1 + 1, 3, none⟩ (.bool y.2.ends)).setCell ⟨g + 1 + 1, 4, none⟩ (.int .i64 y.2.ms)).setCell ⟨g + 1 + 1, 5, none⟩ (.int .i64 y.2.timer)).drew (g + 1 + 1) 90 [.slice P3.A1 y.2.sigs.length P3.c1, .slice P3.A2 y.2.units.length P3.c2, .bool y.2.begins, .bool y.2.ends, .int .i64 y.2.ms, .int .i64 y.2.timer]) := Blk.drew hbq6_2
    have HBR6 : Hid (Blk ((((((((((((((w5.setCell ⟨g + 1, 0, none⟩ (.int .i64 y.1.most)).setCell ⟨g + 1, 1, none⟩ (.int .i64 y.1.credit)).setCell ⟨g + 1, 2, none⟩ (.int .i64 y.1.state)).setCell ⟨g + 1, 3, none⟩ (.int .i64 y.1.sq)).setCell ⟨g + 1, 4, none⟩ (.int .i64 y.1.peer)).setCell ⟨g + 1, 5, none⟩ (.int .i64 y.1.cc)).setCell ⟨g + 1, 6, none⟩ (.int .i64 y.1.ms)).setCell ⟨g + 1, 7, none⟩ (.string y.1.data)).setCell ⟨g + 1 + 1, 0, none⟩ (.slice P3.A1 y.2.sigs.length P3.c1)).setCell ⟨g + 1 + 1, 1, none⟩ (.slice P3.A2 y.2.units.length P3.c2)).setCell ⟨g + 1 + 1, 2, none⟩ (.bool y.2.begins)).setCell ⟨g + 1 + 1, 3, none⟩ (.bool y.2.ends)).setCell ⟨g + 1 + 1, 4, none⟩ (.int .i64 y.2.ms)).setCell ⟨g + 1 + 1, 5, none⟩ (.int .i64 y.2.timer)).drew (g + 1 + 1 + 1) 90 [.slice P3.A1 y.2.sigs.length P3.c1, .slice P3.A2 y.2.units.length P3.c2, .bool y.2.begins, .bool y.2.ends, .int .i64 y.2.ms, .int .i64 y.2.timer]) := Blk.drew hoq6_2R
    have HR6 := Lib.hid (RIn.old hrq6_2 (Touch.refl _ ((((((((((((((w5.setCell ⟨g + 1, 0, none⟩ (.int .i64 y.1.most)).setCell ⟨g + 1, 1, none⟩ (.int .i64 y.1.credit)).setCell ⟨g + 1, 2, none⟩ (.int .i64 y.1.state)).setCell ⟨g + 1, 3, none⟩ (.int .i64 y.1.sq)).setCell ⟨g + 1, 4, none⟩ (.int .i64 y.1.peer)).setCell ⟨g + 1, 5, none⟩ (.int .i64 y.1.cc)).setCell ⟨g + 1, 6, none⟩ (.int .i64 y.1.ms)).setCell ⟨g + 1, 7, none⟩ (.string y.1.data)).setCell ⟨g + 1 + 1, 0, none⟩ (.slice P3.A1 y.2.sigs.length P3.c1)).setCell ⟨g + 1 + 1, 1, none⟩ (.slice P3.A2 y.2.units.length P3.c2)).setCell ⟨g + 1 + 1, 2, none⟩ (.bool y.2.begins)).setCell ⟨g + 1 + 1, 3, none⟩ (.bool y.2.ends)).setCell ⟨g + 1 + 1, 4, none⟩ (.int .i64 y.2.ms)).setCell ⟨g + 1 + 1, 5, none⟩ (.int .i64 y.2.timer))).drew)
    have HT6 : Hid (Touch (OfAct K) w ((((((((((((((w5.setCell ⟨g + 1, 0, none⟩ (.int .i64 y.1.most)).setCell ⟨g + 1, 1, none⟩ (.int .i64 y.1.credit)).setCell ⟨g + 1, 2, none⟩ (.int .i64 y.1.state)).setCell ⟨g + 1, 3, none⟩ (.int .i64 y.1.sq)).setCell ⟨g + 1, 4, none⟩ (.int .i64 y.1.peer)).setCell ⟨g + 1, 5, none⟩ (.int .i64 y.1.cc)).setCell ⟨g + 1, 6, none⟩ (.int .i64 y.1.ms)).setCell ⟨g + 1, 7, none⟩ (.string y.1.data)).setCell ⟨g + 1 + 1, 0, none⟩ (.slice P3.A1 y.2.sigs.length P3.c1)).setCell ⟨g + 1 + 1, 1, none⟩ (.slice P3.A2 y.2.units.length P3.c2)).setCell ⟨g + 1 + 1, 2, none⟩ (.bool y.2.begins)).setCell ⟨g + 1 + 1, 3, none⟩ (.bool y.2.ends)).setCell ⟨g + 1 + 1, 4, none⟩ (.int .i64 y.2.ms)).setCell ⟨g + 1 + 1, 5, none⟩ (.int .i64 y.2.timer)).drew) := Touch.drew hTq6_2
    clear HBC5 HBOC5 HBOR5 HBR5 HR5 HT5 htq6_1 hbq6_1 hrq6_1 hTq6_1 hoq6_1C hoq6_1OR hoq6_1R htq6_2 hbq6_2 hrq6_2 hTq6_2 hoq6_2C hoq6_2OC hoq6_2R
    generalize ((((((((((((((w5.setCell ⟨g + 1, 0, none⟩ (.int .i64 y.1.most)).setCell ⟨g + 1, 1, none⟩ (.int .i64 y.1.credit)).setCell ⟨g + 1, 2, none⟩ (.int .i64 y.1.state)).setCell ⟨g + 1, 3, none⟩ (.int .i64 y.1.sq)).setCell ⟨g + 1, 4, none⟩ (.int .i64 y.1.peer)).setCell ⟨g + 1, 5, none⟩ (.int .i64 y.1.cc)).setCell ⟨g + 1, 6, none⟩ (.int .i64 y.1.ms)).setCell ⟨g + 1, 7, none⟩ (.string y.1.data)).setCell ⟨g + 1 + 1, 0, none⟩ (.slice P3.A1 y.2.sigs.length P3.c1)).setCell ⟨g + 1 + 1, 1, none⟩ (.slice P3.A2 y.2.units.length P3.c2)).setCell ⟨g + 1 + 1, 2, none⟩ (.bool y.2.begins)).setCell ⟨g + 1 + 1, 3, none⟩ (.bool y.2.ends)).setCell ⟨g + 1 + 1, 4, none⟩ (.int .i64 y.2.ms)).setCell ⟨g + 1 + 1, 5, none⟩ (.int .i64 y.2.timer)).drew = w6 at *
    have HX : Hid (∀ e, e = .returned (.tuple #[.agg #[.int .i64 y.1.most, .int .i64 y.1.credit, .int .i64 y.1.state, .int .i64 y.1.sq, .int .i64 y.1.peer, .int .i64 y.1.cc, .int .i64 y.1.ms, .string y.1.data], .agg #[.slice P3.A1 y.2.sigs.length P3.c1, .slice P3.A2 y.2.units.length P3.c2, .bool y.2.begins, .bool y.2.ends, .int .i64 y.2.ms, .int .i64 y.2.timer], .int .i64 0]) → RPost3 K (0 + 9) (Cn.ask (s, Cn.r0) 2 d) (0) w e w6) := fun e he => ⟨P3, he.trans (by (rw [HAE.out]; rfl)), by (refine ((HR6.out.less HL.out).wide (by omega)).eq ?_ ?_ <;> (rw [HAE.out])), HT6.out⟩
    have zOC0 : w6.cell? ⟨g + 1, 0, none⟩ = some (.int .i64 y.1.most) := HBOC6.out.cell 0
    have zOC1 : w6.cell? ⟨g + 1, 1, none⟩ = some (.int .i64 y.1.credit) := HBOC6.out.cell 1
    have zOC2 : w6.cell? ⟨g + 1, 2, none⟩ = some (.int .i64 y.1.state) := HBOC6.out.cell 2
    have zOC3 : w6.cell? ⟨g + 1, 3, none⟩ = some (.int .i64 y.1.sq) := HBOC6.out.cell 3
    have zOC4 : w6.cell? ⟨g + 1, 4, none⟩ = some (.int .i64 y.1.peer) := HBOC6.out.cell 4
    have zOC5 : w6.cell? ⟨g + 1, 5, none⟩ = some (.int .i64 y.1.cc) := HBOC6.out.cell 5
    have zOC6 : w6.cell? ⟨g + 1, 6, none⟩ = some (.int .i64 y.1.ms) := HBOC6.out.cell 6
    have zOC7 : w6.cell? ⟨g + 1, 7, none⟩ = some (.string y.1.data) := HBOC6.out.cell 7
    have zOR0 : w6.cell? ⟨g + 1 + 1, 0, none⟩ = some (.slice P3.A1 y.2.sigs.length P3.c1) := HBOR6.out.cell 0
    have zOR1 : w6.cell? ⟨g + 1 + 1, 1, none⟩ = some (.slice P3.A2 y.2.units.length P3.c2) := HBOR6.out.cell 1
    have zOR2 : w6.cell? ⟨g + 1 + 1, 2, none⟩ = some (.bool y.2.begins) := HBOR6.out.cell 2
    have zOR3 : w6.cell? ⟨g + 1 + 1, 3, none⟩ = some (.bool y.2.ends) := HBOR6.out.cell 3
    have zOR4 : w6.cell? ⟨g + 1 + 1, 4, none⟩ = some (.int .i64 y.2.ms) := HBOR6.out.cell 4
    have zOR5 : w6.cell? ⟨g + 1 + 1, 5, none⟩ = some (.int .i64 y.2.timer) := HBOR6.out.cell 5
    go_wp2
    exact bodyPost_ret (v := _) (by simp [results, Try.results53, go_sem, zOC0, zOC1, zOC2, zOC3, zOC4, zOC5, zOC6, zOC7, zOR0, zOR1, zOR2, zOR3, zOR4, zOR5]) rfl (HX.out _ rfl)
  · have HN := HM
    have xC0 : w1.cell? ⟨g, 0, none⟩ = some (.int .i64 s.most) := HBC1.out.cell 0
    have xC1 : w1.cell? ⟨g, 1, none⟩ = some (.int .i64 s.credit) := HBC1.out.cell 1
    have xC2 : w1.cell? ⟨g, 2, none⟩ = some (.int .i64 s.state) := HBC1.out.cell 2
    have xC3 : w1.cell? ⟨g, 3, none⟩ = some (.int .i64 s.sq) := HBC1.out.cell 3
    have xC4 : w1.cell? ⟨g, 4, none⟩ = some (.int .i64 s.peer) := HBC1.out.cell 4
    have xC5 : w1.cell? ⟨g, 5, none⟩ = some (.int .i64 s.cc) := HBC1.out.cell 5
    have xC6 : w1.cell? ⟨g, 6, none⟩ = some (.int .i64 s.ms) := HBC1.out.cell 6
    have xC7 : w1.cell? ⟨g, 7, none⟩ = some (.string s.data) := HBC1.out.cell 7
    go_wp2_with fail
    refine HMAY.out.mono ?_
    rintro e w2 ⟨rfl, rfl⟩
    rw [HM.out]
    simp only
    clear xC0 xC1 xC2 xC3 xC4 xC5 xC6 xC7
    have xC0 : w1.cell? ⟨g, 0, none⟩ = some (.int .i64 s.most) := HBC1.out.cell 0
    have xC1 : w1.cell? ⟨g, 1, none⟩ = some (.int .i64 s.credit) := HBC1.out.cell 1
    have xC2 : w1.cell? ⟨g, 2, none⟩ = some (.int .i64 s.state) := HBC1.out.cell 2
    have xC3 : w1.cell? ⟨g, 3, none⟩ = some (.int .i64 s.sq) := HBC1.out.cell 3
    have xC4 : w1.cell? ⟨g, 4, none⟩ = some (.int .i64 s.peer) := HBC1.out.cell 4
    have xC5 : w1.cell? ⟨g, 5, none⟩ = some (.int .i64 s.cc) := HBC1.out.cell 5
    have xC6 : w1.cell? ⟨g, 6, none⟩ = some (.int .i64 s.ms) := HBC1.out.cell 6
    have xC7 : w1.cell? ⟨g, 7, none⟩ = some (.string s.data) := HBC1.out.cell 7
    have xR0 : w1.cell? ⟨g + 1 + 1 + 1, 0, none⟩ = some (.slice none 0 0) := HBR1.out.cell 0
    have xR1 : w1.cell? ⟨g + 1 + 1 + 1, 1, none⟩ = some (.slice none 0 0) := HBR1.out.cell 1
    have xR2 : w1.cell? ⟨g + 1 + 1 + 1, 2, none⟩ = some (.bool false) := HBR1.out.cell 2
    have xR3 : w1.cell? ⟨g + 1 + 1 + 1, 3, none⟩ = some (.bool false) := HBR1.out.cell 3
    have xR4 : w1.cell? ⟨g + 1 + 1 + 1, 4, none⟩ = some (.int .i64 0) := HBR1.out.cell 4
    have xR5 : w1.cell? ⟨g + 1 + 1 + 1, 5, none⟩ = some (.int .i64 0) := HBR1.out.cell 5
    go_wp2_with fail
    refine (rout_any (s := s) (r := Cn.r0) HR1.out (by omega) 2 s.peer false ByteArray.empty).mono ?_
    rintro e w2 ⟨P2, rfl, hr2, ht2⟩
    simp only [rcV, rrV]
    have HBC2 := Lib.hid (ht2.keptB HBC1.out HGC.out)
    have HBOC2 := Lib.hid (ht2.keptB HBOC1.out HGOC.out)
    have HBOR2 := Lib.hid (ht2.keptB HBOR1.out HGOR.out)
    have HBR2 := Lib.hid (ht2.keptB HBR1.out HGR.out)
    have HR2 := Lib.hid hr2
    have HT2 : Hid (Touch (OfAct K) w w2) := HT1.out.trans (ht2.loose HL.out) (fun _ _ e => e)
    clear xC0 xC1 xC2 xC3 xC4 xC5 xC6 xC7 xR0 xR1 xR2 xR3 xR4 xR5
    clear hr2 ht2 HBC1 HBOC1 HBOR1 HBR1 HR1 HT1
    obtain ⟨z, hz⟩ : ∃ q_, (Cn.out (s, Cn.r0) (Cn.unit_ 2 s.peer false ByteArray.empty)).2 = q_ := ⟨_, rfl⟩
    have HZz := Lib.hid hz
    rw [hz]
    rw [hz] at HR2
    clear hz
    have xC0 : w2.cell? ⟨g, 0, none⟩ = some (.int .i64 s.most) := HBC2.out.cell 0
    have xC1 : w2.cell? ⟨g, 1, none⟩ = some (.int .i64 s.credit) := HBC2.out.cell 1
    have xC2 : w2.cell? ⟨g, 2, none⟩ = some (.int .i64 s.state) := HBC2.out.cell 2
    have xC3 : w2.cell? ⟨g, 3, none⟩ = some (.int .i64 s.sq) := HBC2.out.cell 3
    have xC4 : w2.cell? ⟨g, 4, none⟩ = some (.int .i64 s.peer) := HBC2.out.cell 4
    have xC5 : w2.cell? ⟨g, 5, none⟩ = some (.int .i64 s.cc) := HBC2.out.cell 5
    have xC6 : w2.cell? ⟨g, 6, none⟩ = some (.int .i64 s.ms) := HBC2.out.cell 6
    have xC7 : w2.cell? ⟨g, 7, none⟩ = some (.string s.data) := HBC2.out.cell 7
    have xR0 : w2.cell? ⟨g + 1 + 1 + 1, 0, none⟩ = some (.slice none 0 0) := HBR2.out.cell 0
    have fR0 := HBR2.out.frozen 0
    have xR1 : w2.cell? ⟨g + 1 + 1 + 1, 1, none⟩ = some (.slice none 0 0) := HBR2.out.cell 1
    have fR1 := HBR2.out.frozen 1
    have xR2 : w2.cell? ⟨g + 1 + 1 + 1, 2, none⟩ = some (.bool false) := HBR2.out.cell 2
    have fR2 := HBR2.out.frozen 2
    have xR3 : w2.cell? ⟨g + 1 + 1 + 1, 3, none⟩ = some (.bool false) := HBR2.out.cell 3
    have fR3 := HBR2.out.frozen 3
    have xR4 : w2.cell? ⟨g + 1 + 1 + 1, 4, none⟩ = some (.int .i64 0) := HBR2.out.cell 4
    have fR4 := HBR2.out.frozen 4
    have xR5 : w2.cell? ⟨g + 1 + 1 + 1, 5, none⟩ = some (.int .i64 0) := HBR2.out.cell 5
    have fR5 := HBR2.out.frozen 5
    go_upto_region 13 with (fail)
    have htq3_1 : Touch (· = g + 1 + 1 + 1) w2 ((((((w2.setCell ⟨g + 1 + 1 + 1, 0, none⟩ (.slice P2.A1 z.sigs.length P2.c1)).setCell ⟨g + 1 + 1 + 1, 1, none⟩ (.slice P2.A2 z.units.length P2.c2)).setCell ⟨g + 1 + 1 + 1, 2, none⟩ (.bool z.begins)).setCell ⟨g + 1 + 1 + 1, 3, none⟩ (.bool z.ends)).setCell ⟨g + 1 + 1 + 1, 4, none⟩ (.int .i64 z.ms)).setCell ⟨g + 1 + 1 + 1, 5, none⟩ (.int .i64 z.timer)) := (((((((Touch.refl _ w2).st (S := (· = g + 1 + 1 + 1)) (u := .slice P2.A1 z.sigs.length P2.c1) (by exact rfl)).st (S := (· = g + 1 + 1 + 1)) (u := .slice P2.A2 z.units.length P2.c2) (by exact rfl)).st (S := (· = g + 1 + 1 + 1)) (u := .bool z.begins) (by exact rfl)).st (S := (· = g + 1 + 1 + 1)) (u := .bool z.ends) (by exact rfl)).st (S := (· = g + 1 + 1 + 1)) (u := .int .i64 z.ms) (by exact rfl)).st (S := (· = g + 1 + 1 + 1)) (u := .int .i64 z.timer) (by exact rfl))
    have hbq3_1 : Blk ((((((w2.setCell ⟨g + 1 + 1 + 1, 0, none⟩ (.slice P2.A1 z.sigs.length P2.c1)).setCell ⟨g + 1 + 1 + 1, 1, none⟩ (.slice P2.A2 z.units.length P2.c2)).setCell ⟨g + 1 + 1 + 1, 2, none⟩ (.bool z.begins)).setCell ⟨g + 1 + 1 + 1, 3, none⟩ (.bool z.ends)).setCell ⟨g + 1 + 1 + 1, 4, none⟩ (.int .i64 z.ms)).setCell ⟨g + 1 + 1 + 1, 5, none⟩ (.int .i64 z.timer)) (g + 1 + 1 + 1) 90 [.slice P2.A1 z.sigs.length P2.c1, .slice P2.A2 z.units.length P2.c2, .bool z.begins, .bool z.ends, .int .i64 z.ms, .int .i64 z.timer] := ((((((HBR2.out.set 0 (.slice P2.A1 z.sigs.length P2.c1)).set 1 (.slice P2.A2 z.units.length P2.c2)).set 2 (.bool z.begins)).set 3 (.bool z.ends)).set 4 (.int .i64 z.ms)).set 5 (.int .i64 z.timer))
    have hoq3_1C := htq3_1.blk HBC2.out (by intro e; have e : g = g + 1 + 1 + 1 := e; omega)
    have hoq3_1OC := htq3_1.blk HBOC2.out (by intro e; have e : g + 1 = g + 1 + 1 + 1 := e; omega)
    have hoq3_1OR := htq3_1.blk HBOR2.out (by intro e; have e : g + 1 + 1 = g + 1 + 1 + 1 := e; omega)
    have hrq3_1 := HR2.out.touch htq3_1 (fun k e => by have e : k = g + 1 + 1 + 1 := e; rw [e]; exact HGR.out)
    have hTq3_1 : Touch (OfAct K) w ((((((w2.setCell ⟨g + 1 + 1 + 1, 0, none⟩ (.slice P2.A1 z.sigs.length P2.c1)).setCell ⟨g + 1 + 1 + 1, 1, none⟩ (.slice P2.A2 z.units.length P2.c2)).setCell ⟨g + 1 + 1 + 1, 2, none⟩ (.bool z.begins)).setCell ⟨g + 1 + 1 + 1, 3, none⟩ (.bool z.ends)).setCell ⟨g + 1 + 1 + 1, 4, none⟩ (.int .i64 z.ms)).setCell ⟨g + 1 + 1 + 1, 5, none⟩ (.int .i64 z.timer)) := HT2.out.trans htq3_1 (fun k _ e => by have e : k = g + 1 + 1 + 1 := e; intro hk; have := HLIM.out k hk; omega)
    clear xC0 xC1 xC2 xC3 xC4 xC5 xC6 xC7 xR0 fR0 xR1 fR1 xR2 fR2 xR3 fR3 xR4 fR4 xR5 fR5
    have HBC3 : Hid (Blk ((((((w2.setCell ⟨g + 1 + 1 + 1, 0, none⟩ (.slice P2.A1 z.sigs.length P2.c1)).setCell ⟨g + 1 + 1 + 1, 1, none⟩ (.slice P2.A2 z.units.length P2.c2)).setCell ⟨g + 1 + 1 + 1, 2, none⟩ (.bool z.begins)).setCell ⟨g + 1 + 1 + 1, 3, none⟩ (.bool z.ends)).setCell ⟨g + 1 + 1 + 1, 4, none⟩ (.int .i64 z.ms)).setCell ⟨g + 1 + 1 + 1, 5, none⟩ (.int .i64 z.timer)) (g) 59 [.int .i64 s.most, .int .i64 s.credit, .int .i64 s.state, .int .i64 s.sq, .int .i64 s.peer, .int .i64 s.cc, .int .i64 s.ms, .string s.data]) := hoq3_1C
    have HBOC3 : Hid (Blk ((((((w2.setCell ⟨g + 1 + 1 + 1, 0, none⟩ (.slice P2.A1 z.sigs.length P2.c1)).setCell ⟨g + 1 + 1 + 1, 1, none⟩ (.slice P2.A2 z.units.length P2.c2)).setCell ⟨g + 1 + 1 + 1, 2, none⟩ (.bool z.begins)).setCell ⟨g + 1 + 1 + 1, 3, none⟩ (.bool z.ends)).setCell ⟨g + 1 + 1 + 1, 4, none⟩ (.int .i64 z.ms)).setCell ⟨g + 1 + 1 + 1, 5, none⟩ (.int .i64 z.timer)) (g + 1) 59 [.int .i64 0, .int .i64 0, .int .i64 0, .int .i64 0, .int .i64 0, .int .i64 0, .int .i64 0, .string { data := #[] }]) := hoq3_1OC
    have HBOR3 : Hid (Blk ((((((w2.setCell ⟨g + 1 + 1 + 1, 0, none⟩ (.slice P2.A1 z.sigs.length P2.c1)).setCell ⟨g + 1 + 1 + 1, 1, none⟩ (.slice P2.A2 z.units.length P2.c2)).setCell ⟨g + 1 + 1 + 1, 2, none⟩ (.bool z.begins)).setCell ⟨g + 1 + 1 + 1, 3, none⟩ (.bool z.ends)).setCell ⟨g + 1 + 1 + 1, 4, none⟩ (.int .i64 z.ms)).setCell ⟨g + 1 + 1 + 1, 5, none⟩ (.int .i64 z.timer)) (g + 1 + 1) 90 [.slice none 0 0, .slice none 0 0, .bool false, .bool false, .int .i64 0, .int .i64 0]) := hoq3_1OR
    have HBR3 : Hid (Blk ((((((w2.setCell ⟨g + 1 + 1 + 1, 0, none⟩ (.slice P2.A1 z.sigs.length P2.c1)).setCell ⟨g + 1 + 1 + 1, 1, none⟩ (.slice P2.A2 z.units.length P2.c2)).setCell ⟨g + 1 + 1 + 1, 2, none⟩ (.bool z.begins)).setCell ⟨g + 1 + 1 + 1, 3, none⟩ (.bool z.ends)).setCell ⟨g + 1 + 1 + 1, 4, none⟩ (.int .i64 z.ms)).setCell ⟨g + 1 + 1 + 1, 5, none⟩ (.int .i64 z.timer)) (g + 1 + 1 + 1) 90 [.slice P2.A1 z.sigs.length P2.c1, .slice P2.A2 z.units.length P2.c2, .bool z.begins, .bool z.ends, .int .i64 z.ms, .int .i64 z.timer]) := hbq3_1
    have HR3 := Lib.hid hrq3_1
    have HT3 : Hid (Touch (OfAct K) w ((((((w2.setCell ⟨g + 1 + 1 + 1, 0, none⟩ (.slice P2.A1 z.sigs.length P2.c1)).setCell ⟨g + 1 + 1 + 1, 1, none⟩ (.slice P2.A2 z.units.length P2.c2)).setCell ⟨g + 1 + 1 + 1, 2, none⟩ (.bool z.begins)).setCell ⟨g + 1 + 1 + 1, 3, none⟩ (.bool z.ends)).setCell ⟨g + 1 + 1 + 1, 4, none⟩ (.int .i64 z.ms)).setCell ⟨g + 1 + 1 + 1, 5, none⟩ (.int .i64 z.timer))) := hTq3_1
    clear HBC2 HBOC2 HBOR2 HBR2 HR2 HT2 htq3_1 hbq3_1 hrq3_1 hTq3_1 hoq3_1C hoq3_1OC hoq3_1OR
    generalize ((((((w2.setCell ⟨g + 1 + 1 + 1, 0, none⟩ (.slice P2.A1 z.sigs.length P2.c1)).setCell ⟨g + 1 + 1 + 1, 1, none⟩ (.slice P2.A2 z.units.length P2.c2)).setCell ⟨g + 1 + 1 + 1, 2, none⟩ (.bool z.begins)).setCell ⟨g + 1 + 1 + 1, 3, none⟩ (.bool z.ends)).setCell ⟨g + 1 + 1 + 1, 4, none⟩ (.int .i64 z.ms)).setCell ⟨g + 1 + 1 + 1, 5, none⟩ (.int .i64 z.timer)) = w3 at *
    have xC0 : w3.cell? ⟨g, 0, none⟩ = some (.int .i64 s.most) := HBC3.out.cell 0
    have xC1 : w3.cell? ⟨g, 1, none⟩ = some (.int .i64 s.credit) := HBC3.out.cell 1
    have xC2 : w3.cell? ⟨g, 2, none⟩ = some (.int .i64 s.state) := HBC3.out.cell 2
    have xC3 : w3.cell? ⟨g, 3, none⟩ = some (.int .i64 s.sq) := HBC3.out.cell 3
    have xC4 : w3.cell? ⟨g, 4, none⟩ = some (.int .i64 s.peer) := HBC3.out.cell 4
    have xC5 : w3.cell? ⟨g, 5, none⟩ = some (.int .i64 s.cc) := HBC3.out.cell 5
    have xC6 : w3.cell? ⟨g, 6, none⟩ = some (.int .i64 s.ms) := HBC3.out.cell 6
    have xC7 : w3.cell? ⟨g, 7, none⟩ = some (.string s.data) := HBC3.out.cell 7
    have xR0 : w3.cell? ⟨g + 1 + 1 + 1, 0, none⟩ = some (.slice P2.A1 z.sigs.length P2.c1) := HBR3.out.cell 0
    have xR1 : w3.cell? ⟨g + 1 + 1 + 1, 1, none⟩ = some (.slice P2.A2 z.units.length P2.c2) := HBR3.out.cell 1
    have xR2 : w3.cell? ⟨g + 1 + 1 + 1, 2, none⟩ = some (.bool z.begins) := HBR3.out.cell 2
    have xR3 : w3.cell? ⟨g + 1 + 1 + 1, 3, none⟩ = some (.bool z.ends) := HBR3.out.cell 3
    have xR4 : w3.cell? ⟨g + 1 + 1 + 1, 4, none⟩ = some (.int .i64 z.ms) := HBR3.out.cell 4
    have xR5 : w3.cell? ⟨g + 1 + 1 + 1, 5, none⟩ = some (.int .i64 z.timer) := HBR3.out.cell 5
    go_wp2_with fail
    refine (rready_any (s := s) (r := z) HR3.out).mono ?_
    rintro e w4 ⟨P3, rfl, hr4, ht4⟩
    simp only [rcV, rrV]
    have HBC4 := Lib.hid (ht4.keptB HBC3.out HGC.out)
    have HBOC4 := Lib.hid (ht4.keptB HBOC3.out HGOC.out)
    have HBOR4 := Lib.hid (ht4.keptB HBOR3.out HGOR.out)
    have HBR4 := Lib.hid (ht4.keptB HBR3.out HGR.out)
    have HR4 := Lib.hid hr4
    have HT4 : Hid (Touch (OfAct K) w w4) := HT3.out.trans (ht4.loose HL.out) (fun _ _ e => e)
    clear xC0 xC1 xC2 xC3 xC4 xC5 xC6 xC7 xR0 xR1 xR2 xR3 xR4 xR5
    clear hr4 ht4 HBC3 HBOC3 HBOR3 HBR3 HR3 HT3
    obtain ⟨y, hy⟩ : ∃ q_, Cn.ready (s, z) = q_ := ⟨_, rfl⟩
    have HYy := Lib.hid hy
    rw [hy]
    rw [hy] at HR4
    clear hy
    have xC0 : w4.cell? ⟨g, 0, none⟩ = some (.int .i64 s.most) := HBC4.out.cell 0
    have fC0 := HBC4.out.frozen 0
    have xC1 : w4.cell? ⟨g, 1, none⟩ = some (.int .i64 s.credit) := HBC4.out.cell 1
    have fC1 := HBC4.out.frozen 1
    have xC2 : w4.cell? ⟨g, 2, none⟩ = some (.int .i64 s.state) := HBC4.out.cell 2
    have fC2 := HBC4.out.frozen 2
    have xC3 : w4.cell? ⟨g, 3, none⟩ = some (.int .i64 s.sq) := HBC4.out.cell 3
    have fC3 := HBC4.out.frozen 3
    have xC4 : w4.cell? ⟨g, 4, none⟩ = some (.int .i64 s.peer) := HBC4.out.cell 4
    have fC4 := HBC4.out.frozen 4
    have xC5 : w4.cell? ⟨g, 5, none⟩ = some (.int .i64 s.cc) := HBC4.out.cell 5
    have fC5 := HBC4.out.frozen 5
    have xC6 : w4.cell? ⟨g, 6, none⟩ = some (.int .i64 s.ms) := HBC4.out.cell 6
    have fC6 := HBC4.out.frozen 6
    have xC7 : w4.cell? ⟨g, 7, none⟩ = some (.string s.data) := HBC4.out.cell 7
    have fC7 := HBC4.out.frozen 7
    have xR0 : w4.cell? ⟨g + 1 + 1 + 1, 0, none⟩ = some (.slice P2.A1 z.sigs.length P2.c1) := HBR4.out.cell 0
    have fR0 := HBR4.out.frozen 0
    have xR1 : w4.cell? ⟨g + 1 + 1 + 1, 1, none⟩ = some (.slice P2.A2 z.units.length P2.c2) := HBR4.out.cell 1
    have fR1 := HBR4.out.frozen 1
    have xR2 : w4.cell? ⟨g + 1 + 1 + 1, 2, none⟩ = some (.bool z.begins) := HBR4.out.cell 2
    have fR2 := HBR4.out.frozen 2
    have xR3 : w4.cell? ⟨g + 1 + 1 + 1, 3, none⟩ = some (.bool z.ends) := HBR4.out.cell 3
    have fR3 := HBR4.out.frozen 3
    have xR4 : w4.cell? ⟨g + 1 + 1 + 1, 4, none⟩ = some (.int .i64 z.ms) := HBR4.out.cell 4
    have fR4 := HBR4.out.frozen 4
    have xR5 : w4.cell? ⟨g + 1 + 1 + 1, 5, none⟩ = some (.int .i64 z.timer) := HBR4.out.cell 5
    have fR5 := HBR4.out.frozen 5
    have HAE : Hid (Cn.ask (s, Cn.r0) 2 d = y) := by rw [← HYy.out, ← HZz.out]; rfl
    go_wp2
    have htq5_1 : Touch (· = g) w4 ((((((((w4.setCell ⟨g, 0, none⟩ (.int .i64 y.1.most)).setCell ⟨g, 1, none⟩ (.int .i64 y.1.credit)).setCell ⟨g, 2, none⟩ (.int .i64 y.1.state)).setCell ⟨g, 3, none⟩ (.int .i64 y.1.sq)).setCell ⟨g, 4, none⟩ (.int .i64 y.1.peer)).setCell ⟨g, 5, none⟩ (.int .i64 y.1.cc)).setCell ⟨g, 6, none⟩ (.int .i64 y.1.ms)).setCell ⟨g, 7, none⟩ (.string y.1.data)) := (((((((((Touch.refl _ w4).st (S := (· = g)) (u := .int .i64 y.1.most) (by exact rfl)).st (S := (· = g)) (u := .int .i64 y.1.credit) (by exact rfl)).st (S := (· = g)) (u := .int .i64 y.1.state) (by exact rfl)).st (S := (· = g)) (u := .int .i64 y.1.sq) (by exact rfl)).st (S := (· = g)) (u := .int .i64 y.1.peer) (by exact rfl)).st (S := (· = g)) (u := .int .i64 y.1.cc) (by exact rfl)).st (S := (· = g)) (u := .int .i64 y.1.ms) (by exact rfl)).st (S := (· = g)) (u := .string y.1.data) (by exact rfl))
    have hbq5_1 : Blk ((((((((w4.setCell ⟨g, 0, none⟩ (.int .i64 y.1.most)).setCell ⟨g, 1, none⟩ (.int .i64 y.1.credit)).setCell ⟨g, 2, none⟩ (.int .i64 y.1.state)).setCell ⟨g, 3, none⟩ (.int .i64 y.1.sq)).setCell ⟨g, 4, none⟩ (.int .i64 y.1.peer)).setCell ⟨g, 5, none⟩ (.int .i64 y.1.cc)).setCell ⟨g, 6, none⟩ (.int .i64 y.1.ms)).setCell ⟨g, 7, none⟩ (.string y.1.data)) (g) 59 [.int .i64 y.1.most, .int .i64 y.1.credit, .int .i64 y.1.state, .int .i64 y.1.sq, .int .i64 y.1.peer, .int .i64 y.1.cc, .int .i64 y.1.ms, .string y.1.data] := ((((((((HBC4.out.set 0 (.int .i64 y.1.most)).set 1 (.int .i64 y.1.credit)).set 2 (.int .i64 y.1.state)).set 3 (.int .i64 y.1.sq)).set 4 (.int .i64 y.1.peer)).set 5 (.int .i64 y.1.cc)).set 6 (.int .i64 y.1.ms)).set 7 (.string y.1.data))
    have hoq5_1OC := htq5_1.blk HBOC4.out (by intro e; have e : g + 1 = g := e; omega)
    have hoq5_1OR := htq5_1.blk HBOR4.out (by intro e; have e : g + 1 + 1 = g := e; omega)
    have hoq5_1R := htq5_1.blk HBR4.out (by intro e; have e : g + 1 + 1 + 1 = g := e; omega)
    have hrq5_1 := HR4.out.touch htq5_1 (fun k e => by have e : k = g := e; rw [e]; exact HGC.out)
    have hTq5_1 : Touch (OfAct K) w ((((((((w4.setCell ⟨g, 0, none⟩ (.int .i64 y.1.most)).setCell ⟨g, 1, none⟩ (.int .i64 y.1.credit)).setCell ⟨g, 2, none⟩ (.int .i64 y.1.state)).setCell ⟨g, 3, none⟩ (.int .i64 y.1.sq)).setCell ⟨g, 4, none⟩ (.int .i64 y.1.peer)).setCell ⟨g, 5, none⟩ (.int .i64 y.1.cc)).setCell ⟨g, 6, none⟩ (.int .i64 y.1.ms)).setCell ⟨g, 7, none⟩ (.string y.1.data)) := HT4.out.trans htq5_1 (fun k _ e => by have e : k = g := e; intro hk; have := HLIM.out k hk; omega)
    obtain ⟨w5, q0⟩ : ∃ x : World, x = ((((((((((((((w4.setCell ⟨g, 0, none⟩ (.int .i64 y.1.most)).setCell ⟨g, 1, none⟩ (.int .i64 y.1.credit)).setCell ⟨g, 2, none⟩ (.int .i64 y.1.state)).setCell ⟨g, 3, none⟩ (.int .i64 y.1.sq)).setCell ⟨g, 4, none⟩ (.int .i64 y.1.peer)).setCell ⟨g, 5, none⟩ (.int .i64 y.1.cc)).setCell ⟨g, 6, none⟩ (.int .i64 y.1.ms)).setCell ⟨g, 7, none⟩ (.string y.1.data)).setCell ⟨g + 1 + 1 + 1, 0, none⟩ (.slice P3.A1 y.2.sigs.length P3.c1)).setCell ⟨g + 1 + 1 + 1, 1, none⟩ (.slice P3.A2 y.2.units.length P3.c2)).setCell ⟨g + 1 + 1 + 1, 2, none⟩ (.bool y.2.begins)).setCell ⟨g + 1 + 1 + 1, 3, none⟩ (.bool y.2.ends)).setCell ⟨g + 1 + 1 + 1, 4, none⟩ (.int .i64 y.2.ms)).setCell ⟨g + 1 + 1 + 1, 5, none⟩ (.int .i64 y.2.timer)) := ⟨_, rfl⟩
    have q_w5 := Lib.hid q0
    clear q0
    have htq5_2 : Touch (· = g + 1 + 1 + 1) ((((((((w4.setCell ⟨g, 0, none⟩ (.int .i64 y.1.most)).setCell ⟨g, 1, none⟩ (.int .i64 y.1.credit)).setCell ⟨g, 2, none⟩ (.int .i64 y.1.state)).setCell ⟨g, 3, none⟩ (.int .i64 y.1.sq)).setCell ⟨g, 4, none⟩ (.int .i64 y.1.peer)).setCell ⟨g, 5, none⟩ (.int .i64 y.1.cc)).setCell ⟨g, 6, none⟩ (.int .i64 y.1.ms)).setCell ⟨g, 7, none⟩ (.string y.1.data)) w5 := by rw [q_w5.out]; exact (((((((Touch.refl _ ((((((((w4.setCell ⟨g, 0, none⟩ (.int .i64 y.1.most)).setCell ⟨g, 1, none⟩ (.int .i64 y.1.credit)).setCell ⟨g, 2, none⟩ (.int .i64 y.1.state)).setCell ⟨g, 3, none⟩ (.int .i64 y.1.sq)).setCell ⟨g, 4, none⟩ (.int .i64 y.1.peer)).setCell ⟨g, 5, none⟩ (.int .i64 y.1.cc)).setCell ⟨g, 6, none⟩ (.int .i64 y.1.ms)).setCell ⟨g, 7, none⟩ (.string y.1.data))).st (S := (· = g + 1 + 1 + 1)) (u := .slice P3.A1 y.2.sigs.length P3.c1) (by exact rfl)).st (S := (· = g + 1 + 1 + 1)) (u := .slice P3.A2 y.2.units.length P3.c2) (by exact rfl)).st (S := (· = g + 1 + 1 + 1)) (u := .bool y.2.begins) (by exact rfl)).st (S := (· = g + 1 + 1 + 1)) (u := .bool y.2.ends) (by exact rfl)).st (S := (· = g + 1 + 1 + 1)) (u := .int .i64 y.2.ms) (by exact rfl)).st (S := (· = g + 1 + 1 + 1)) (u := .int .i64 y.2.timer) (by exact rfl))
    have hbq5_2 : Blk w5 (g + 1 + 1 + 1) 90 [.slice P3.A1 y.2.sigs.length P3.c1, .slice P3.A2 y.2.units.length P3.c2, .bool y.2.begins, .bool y.2.ends, .int .i64 y.2.ms, .int .i64 y.2.timer] := by rw [q_w5.out]; exact ((((((hoq5_1R.set 0 (.slice P3.A1 y.2.sigs.length P3.c1)).set 1 (.slice P3.A2 y.2.units.length P3.c2)).set 2 (.bool y.2.begins)).set 3 (.bool y.2.ends)).set 4 (.int .i64 y.2.ms)).set 5 (.int .i64 y.2.timer))
    have hoq5_2C := htq5_2.blk hbq5_1 (by intro e; have e : g = g + 1 + 1 + 1 := e; omega)
    have hoq5_2OC := htq5_2.blk hoq5_1OC (by intro e; have e : g + 1 = g + 1 + 1 + 1 := e; omega)
    have hoq5_2OR := htq5_2.blk hoq5_1OR (by intro e; have e : g + 1 + 1 = g + 1 + 1 + 1 := e; omega)
    have hrq5_2 := hrq5_1.touch htq5_2 (fun k e => by have e : k = g + 1 + 1 + 1 := e; rw [e]; exact HGR.out)
    have hTq5_2 : Touch (OfAct K) w w5 := hTq5_1.trans htq5_2 (fun k _ e => by have e : k = g + 1 + 1 + 1 := e; intro hk; have := HLIM.out k hk; omega)
    clear xC0 fC0 xC1 fC1 xC2 fC2 xC3 fC3 xC4 fC4 xC5 fC5 xC6 fC6 xC7 fC7 xR0 fR0 xR1 fR1 xR2 fR2 xR3 fR3 xR4 fR4 xR5 fR5
    have HBC5 : Hid (Blk w5 (g) 59 [.int .i64 y.1.most, .int .i64 y.1.credit, .int .i64 y.1.state, .int .i64 y.1.sq, .int .i64 y.1.peer, .int .i64 y.1.cc, .int .i64 y.1.ms, .string y.1.data]) := hoq5_2C
    have HBOC5 : Hid (Blk w5 (g + 1) 59 [.int .i64 0, .int .i64 0, .int .i64 0, .int .i64 0, .int .i64 0, .int .i64 0, .int .i64 0, .string { data := #[] }]) := hoq5_2OC
    have HBOR5 : Hid (Blk w5 (g + 1 + 1) 90 [.slice none 0 0, .slice none 0 0, .bool false, .bool false, .int .i64 0, .int .i64 0]) := hoq5_2OR
    have HBR5 : Hid (Blk w5 (g + 1 + 1 + 1) 90 [.slice P3.A1 y.2.sigs.length P3.c1, .slice P3.A2 y.2.units.length P3.c2, .bool y.2.begins, .bool y.2.ends, .int .i64 y.2.ms, .int .i64 y.2.timer]) := hbq5_2
    have HR5 := Lib.hid hrq5_2
    have HT5 : Hid (Touch (OfAct K) w w5) := hTq5_2
    clear HBC4 HBOC4 HBOR4 HBR4 HR4 HT4 htq5_1 hbq5_1 hrq5_1 hTq5_1 hoq5_1OC hoq5_1OR hoq5_1R htq5_2 hbq5_2 hrq5_2 hTq5_2 hoq5_2C hoq5_2OC hoq5_2OR
    rw [← q_w5.out]
    clear q_w5
    have xC0 : w5.cell? ⟨g, 0, none⟩ = some (.int .i64 y.1.most) := HBC5.out.cell 0
    have xC1 : w5.cell? ⟨g, 1, none⟩ = some (.int .i64 y.1.credit) := HBC5.out.cell 1
    have xC2 : w5.cell? ⟨g, 2, none⟩ = some (.int .i64 y.1.state) := HBC5.out.cell 2
    have xC3 : w5.cell? ⟨g, 3, none⟩ = some (.int .i64 y.1.sq) := HBC5.out.cell 3
    have xC4 : w5.cell? ⟨g, 4, none⟩ = some (.int .i64 y.1.peer) := HBC5.out.cell 4
    have xC5 : w5.cell? ⟨g, 5, none⟩ = some (.int .i64 y.1.cc) := HBC5.out.cell 5
    have xC6 : w5.cell? ⟨g, 6, none⟩ = some (.int .i64 y.1.ms) := HBC5.out.cell 6
    have xC7 : w5.cell? ⟨g, 7, none⟩ = some (.string y.1.data) := HBC5.out.cell 7
    have xR0 : w5.cell? ⟨g + 1 + 1 + 1, 0, none⟩ = some (.slice P3.A1 y.2.sigs.length P3.c1) := HBR5.out.cell 0
    have xR1 : w5.cell? ⟨g + 1 + 1 + 1, 1, none⟩ = some (.slice P3.A2 y.2.units.length P3.c2) := HBR5.out.cell 1
    have xR2 : w5.cell? ⟨g + 1 + 1 + 1, 2, none⟩ = some (.bool y.2.begins) := HBR5.out.cell 2
    have xR3 : w5.cell? ⟨g + 1 + 1 + 1, 3, none⟩ = some (.bool y.2.ends) := HBR5.out.cell 3
    have xR4 : w5.cell? ⟨g + 1 + 1 + 1, 4, none⟩ = some (.int .i64 y.2.ms) := HBR5.out.cell 4
    have xR5 : w5.cell? ⟨g + 1 + 1 + 1, 5, none⟩ = some (.int .i64 y.2.timer) := HBR5.out.cell 5
    have xOC0 : w5.cell? ⟨g + 1, 0, none⟩ = some (.int .i64 0) := HBOC5.out.cell 0
    have fOC0 := HBOC5.out.frozen 0
    have xOC1 : w5.cell? ⟨g + 1, 1, none⟩ = some (.int .i64 0) := HBOC5.out.cell 1
    have fOC1 := HBOC5.out.frozen 1
    have xOC2 : w5.cell? ⟨g + 1, 2, none⟩ = some (.int .i64 0) := HBOC5.out.cell 2
    have fOC2 := HBOC5.out.frozen 2
    have xOC3 : w5.cell? ⟨g + 1, 3, none⟩ = some (.int .i64 0) := HBOC5.out.cell 3
    have fOC3 := HBOC5.out.frozen 3
    have xOC4 : w5.cell? ⟨g + 1, 4, none⟩ = some (.int .i64 0) := HBOC5.out.cell 4
    have fOC4 := HBOC5.out.frozen 4
    have xOC5 : w5.cell? ⟨g + 1, 5, none⟩ = some (.int .i64 0) := HBOC5.out.cell 5
    have fOC5 := HBOC5.out.frozen 5
    have xOC6 : w5.cell? ⟨g + 1, 6, none⟩ = some (.int .i64 0) := HBOC5.out.cell 6
    have fOC6 := HBOC5.out.frozen 6
    have xOC7 : w5.cell? ⟨g + 1, 7, none⟩ = some (.string { data := #[] }) := HBOC5.out.cell 7
    have fOC7 := HBOC5.out.frozen 7
    have xOR0 : w5.cell? ⟨g + 1 + 1, 0, none⟩ = some (.slice none 0 0) := HBOR5.out.cell 0
    have fOR0 := HBOR5.out.frozen 0
    have xOR1 : w5.cell? ⟨g + 1 + 1, 1, none⟩ = some (.slice none 0 0) := HBOR5.out.cell 1
    have fOR1 := HBOR5.out.frozen 1
    have xOR2 : w5.cell? ⟨g + 1 + 1, 2, none⟩ = some (.bool false) := HBOR5.out.cell 2
    have fOR2 := HBOR5.out.frozen 2
    have xOR3 : w5.cell? ⟨g + 1 + 1, 3, none⟩ = some (.bool false) := HBOR5.out.cell 3
    have fOR3 := HBOR5.out.frozen 3
    have xOR4 : w5.cell? ⟨g + 1 + 1, 4, none⟩ = some (.int .i64 0) := HBOR5.out.cell 4
    have fOR4 := HBOR5.out.frozen 4
    have xOR5 : w5.cell? ⟨g + 1 + 1, 5, none⟩ = some (.int .i64 0) := HBOR5.out.cell 5
    have fOR5 := HBOR5.out.frozen 5
    go_region
    have htq6_1 : Touch (· = g + 1) w5 ((((((((w5.setCell ⟨g + 1, 0, none⟩ (.int .i64 y.1.most)).setCell ⟨g + 1, 1, none⟩ (.int .i64 y.1.credit)).setCell ⟨g + 1, 2, none⟩ (.int .i64 y.1.state)).setCell ⟨g + 1, 3, none⟩ (.int .i64 y.1.sq)).setCell ⟨g + 1, 4, none⟩ (.int .i64 y.1.peer)).setCell ⟨g + 1, 5, none⟩ (.int .i64 y.1.cc)).setCell ⟨g + 1, 6, none⟩ (.int .i64 y.1.ms)).setCell ⟨g + 1, 7, none⟩ (.string y.1.data)) := (((((((((Touch.refl _ w5).st (S := (· = g + 1)) (u := .int .i64 y.1.most) (by exact rfl)).st (S := (· = g + 1)) (u := .int .i64 y.1.credit) (by exact rfl)).st (S := (· = g + 1)) (u := .int .i64 y.1.state) (by exact rfl)).st (S := (· = g + 1)) (u := .int .i64 y.1.sq) (by exact rfl)).st (S := (· = g + 1)) (u := .int .i64 y.1.peer) (by exact rfl)).st (S := (· = g + 1)) (u := .int .i64 y.1.cc) (by exact rfl)).st (S := (· = g + 1)) (u := .int .i64 y.1.ms) (by exact rfl)).st (S := (· = g + 1)) (u := .string y.1.data) (by exact rfl))
    have hbq6_1 : Blk ((((((((w5.setCell ⟨g + 1, 0, none⟩ (.int .i64 y.1.most)).setCell ⟨g + 1, 1, none⟩ (.int .i64 y.1.credit)).setCell ⟨g + 1, 2, none⟩ (.int .i64 y.1.state)).setCell ⟨g + 1, 3, none⟩ (.int .i64 y.1.sq)).setCell ⟨g + 1, 4, none⟩ (.int .i64 y.1.peer)).setCell ⟨g + 1, 5, none⟩ (.int .i64 y.1.cc)).setCell ⟨g + 1, 6, none⟩ (.int .i64 y.1.ms)).setCell ⟨g + 1, 7, none⟩ (.string y.1.data)) (g + 1) 59 [.int .i64 y.1.most, .int .i64 y.1.credit, .int .i64 y.1.state, .int .i64 y.1.sq, .int .i64 y.1.peer, .int .i64 y.1.cc, .int .i64 y.1.ms, .string y.1.data] := ((((((((HBOC5.out.set 0 (.int .i64 y.1.most)).set 1 (.int .i64 y.1.credit)).set 2 (.int .i64 y.1.state)).set 3 (.int .i64 y.1.sq)).set 4 (.int .i64 y.1.peer)).set 5 (.int .i64 y.1.cc)).set 6 (.int .i64 y.1.ms)).set 7 (.string y.1.data))
    have hoq6_1C := htq6_1.blk HBC5.out (by intro e; have e : g = g + 1 := e; omega)
    have hoq6_1OR := htq6_1.blk HBOR5.out (by intro e; have e : g + 1 + 1 = g + 1 := e; omega)
    have hoq6_1R := htq6_1.blk HBR5.out (by intro e; have e : g + 1 + 1 + 1 = g + 1 := e; omega)
    have hrq6_1 := HR5.out.touch htq6_1 (fun k e => by have e : k = g + 1 := e; rw [e]; exact HGOC.out)
    have hTq6_1 : Touch (OfAct K) w ((((((((w5.setCell ⟨g + 1, 0, none⟩ (.int .i64 y.1.most)).setCell ⟨g + 1, 1, none⟩ (.int .i64 y.1.credit)).setCell ⟨g + 1, 2, none⟩ (.int .i64 y.1.state)).setCell ⟨g + 1, 3, none⟩ (.int .i64 y.1.sq)).setCell ⟨g + 1, 4, none⟩ (.int .i64 y.1.peer)).setCell ⟨g + 1, 5, none⟩ (.int .i64 y.1.cc)).setCell ⟨g + 1, 6, none⟩ (.int .i64 y.1.ms)).setCell ⟨g + 1, 7, none⟩ (.string y.1.data)) := HT5.out.trans htq6_1 (fun k _ e => by have e : k = g + 1 := e; intro hk; have := HLIM.out k hk; omega)
    have htq6_2 : Touch (· = g + 1 + 1) ((((((((w5.setCell ⟨g + 1, 0, none⟩ (.int .i64 y.1.most)).setCell ⟨g + 1, 1, none⟩ (.int .i64 y.1.credit)).setCell ⟨g + 1, 2, none⟩ (.int .i64 y.1.state)).setCell ⟨g + 1, 3, none⟩ (.int .i64 y.1.sq)).setCell ⟨g + 1, 4, none⟩ (.int .i64 y.1.peer)).setCell ⟨g + 1, 5, none⟩ (.int .i64 y.1.cc)).setCell ⟨g + 1, 6, none⟩ (.int .i64 y.1.ms)).setCell ⟨g + 1, 7, none⟩ (.string y.1.data)) ((((((((((((((w5.setCell ⟨g + 1, 0, none⟩ (.int .i64 y.1.most)).setCell ⟨g + 1, 1, none⟩ (.int .i64 y.1.credit)).setCell ⟨g + 1, 2, none⟩ (.int .i64 y.1.state)).setCell ⟨g + 1, 3, none⟩ (.int .i64 y.1.sq)).setCell ⟨g + 1, 4, none⟩ (.int .i64 y.1.peer)).setCell ⟨g + 1, 5, none⟩ (.int .i64 y.1.cc)).setCell ⟨g + 1, 6, none⟩ (.int .i64 y.1.ms)).setCell ⟨g + 1, 7, none⟩ (.string y.1.data)).setCell ⟨g + 1 + 1, 0, none⟩ (.slice P3.A1 y.2.sigs.length P3.c1)).setCell ⟨g + 1 + 1, 1, none⟩ (.slice P3.A2 y.2.units.length P3.c2)).setCell ⟨g + 1 + 1, 2, none⟩ (.bool y.2.begins)).setCell ⟨g + 1 + 1, 3, none⟩ (.bool y.2.ends)).setCell ⟨g + 1 + 1, 4, none⟩ (.int .i64 y.2.ms)).setCell ⟨g + 1 + 1, 5, none⟩ (.int .i64 y.2.timer)) := (((((((Touch.refl _ ((((((((w5.setCell ⟨g + 1, 0, none⟩ (.int .i64 y.1.most)).setCell ⟨g + 1, 1, none⟩ (.int .i64 y.1.credit)).setCell ⟨g + 1, 2, none⟩ (.int .i64 y.1.state)).setCell ⟨g + 1, 3, none⟩ (.int .i64 y.1.sq)).setCell ⟨g + 1, 4, none⟩ (.int .i64 y.1.peer)).setCell ⟨g + 1, 5, none⟩ (.int .i64 y.1.cc)).setCell ⟨g + 1, 6, none⟩ (.int .i64 y.1.ms)).setCell ⟨g + 1, 7, none⟩ (.string y.1.data))).st (S := (· = g + 1 + 1)) (u := .slice P3.A1 y.2.sigs.length P3.c1) (by exact rfl)).st (S := (· = g + 1 + 1)) (u := .slice P3.A2 y.2.units.length P3.c2) (by exact rfl)).st (S := (· = g + 1 + 1)) (u := .bool y.2.begins) (by exact rfl)).st (S := (· = g + 1 + 1)) (u := .bool y.2.ends) (by exact rfl)).st (S := (· = g + 1 + 1)) (u := .int .i64 y.2.ms) (by exact rfl)).st (S := (· = g + 1 + 1)) (u := .int .i64 y.2.timer) (by exact rfl))
    have hbq6_2 : Blk ((((((((((((((w5.setCell ⟨g + 1, 0, none⟩ (.int .i64 y.1.most)).setCell ⟨g + 1, 1, none⟩ (.int .i64 y.1.credit)).setCell ⟨g + 1, 2, none⟩ (.int .i64 y.1.state)).setCell ⟨g + 1, 3, none⟩ (.int .i64 y.1.sq)).setCell ⟨g + 1, 4, none⟩ (.int .i64 y.1.peer)).setCell ⟨g + 1, 5, none⟩ (.int .i64 y.1.cc)).setCell ⟨g + 1, 6, none⟩ (.int .i64 y.1.ms)).setCell ⟨g + 1, 7, none⟩ (.string y.1.data)).setCell ⟨g + 1 + 1, 0, none⟩ (.slice P3.A1 y.2.sigs.length P3.c1)).setCell ⟨g + 1 + 1, 1, none⟩ (.slice P3.A2 y.2.units.length P3.c2)).setCell ⟨g + 1 + 1, 2, none⟩ (.bool y.2.begins)).setCell ⟨g + 1 + 1, 3, none⟩ (.bool y.2.ends)).setCell ⟨g + 1 + 1, 4, none⟩ (.int .i64 y.2.ms)).setCell ⟨g + 1 + 1, 5, none⟩ (.int .i64 y.2.timer)) (g + 1 + 1) 90 [.slice P3.A1 y.2.sigs.length P3.c1, .slice P3.A2 y.2.units.length P3.c2, .bool y.2.begins, .bool y.2.ends, .int .i64 y.2.ms, .int .i64 y.2.timer] := ((((((hoq6_1OR.set 0 (.slice P3.A1 y.2.sigs.length P3.c1)).set 1 (.slice P3.A2 y.2.units.length P3.c2)).set 2 (.bool y.2.begins)).set 3 (.bool y.2.ends)).set 4 (.int .i64 y.2.ms)).set 5 (.int .i64 y.2.timer))
    have hoq6_2C := htq6_2.blk hoq6_1C (by intro e; have e : g = g + 1 + 1 := e; omega)
    have hoq6_2OC := htq6_2.blk hbq6_1 (by intro e; have e : g + 1 = g + 1 + 1 := e; omega)
    have hoq6_2R := htq6_2.blk hoq6_1R (by intro e; have e : g + 1 + 1 + 1 = g + 1 + 1 := e; omega)
    have hrq6_2 := hrq6_1.touch htq6_2 (fun k e => by have e : k = g + 1 + 1 := e; rw [e]; exact HGOR.out)
    have hTq6_2 : Touch (OfAct K) w ((((((((((((((w5.setCell ⟨g + 1, 0, none⟩ (.int .i64 y.1.most)).setCell ⟨g + 1, 1, none⟩ (.int .i64 y.1.credit)).setCell ⟨g + 1, 2, none⟩ (.int .i64 y.1.state)).setCell ⟨g + 1, 3, none⟩ (.int .i64 y.1.sq)).setCell ⟨g + 1, 4, none⟩ (.int .i64 y.1.peer)).setCell ⟨g + 1, 5, none⟩ (.int .i64 y.1.cc)).setCell ⟨g + 1, 6, none⟩ (.int .i64 y.1.ms)).setCell ⟨g + 1, 7, none⟩ (.string y.1.data)).setCell ⟨g + 1 + 1, 0, none⟩ (.slice P3.A1 y.2.sigs.length P3.c1)).setCell ⟨g + 1 + 1, 1, none⟩ (.slice P3.A2 y.2.units.length P3.c2)).setCell ⟨g + 1 + 1, 2, none⟩ (.bool y.2.begins)).setCell ⟨g + 1 + 1, 3, none⟩ (.bool y.2.ends)).setCell ⟨g + 1 + 1, 4, none⟩ (.int .i64 y.2.ms)).setCell ⟨g + 1 + 1, 5, none⟩ (.int .i64 y.2.timer)) := hTq6_1.trans htq6_2 (fun k _ e => by have e : k = g + 1 + 1 := e; intro hk; have := HLIM.out k hk; omega)
    clear xC0 xC1 xC2 xC3 xC4 xC5 xC6 xC7 xR0 xR1 xR2 xR3 xR4 xR5 xOC0 fOC0 xOC1 fOC1 xOC2 fOC2 xOC3 fOC3 xOC4 fOC4 xOC5 fOC5 xOC6 fOC6 xOC7 fOC7 xOR0 fOR0 xOR1 fOR1 xOR2 fOR2 xOR3 fOR3 xOR4 fOR4 xOR5 fOR5
    have HBC6 : Hid (Blk ((((((((((((((w5.setCell ⟨g + 1, 0, none⟩ (.int .i64 y.1.most)).setCell ⟨g + 1, 1, none⟩ (.int .i64 y.1.credit)).setCell ⟨g + 1, 2, none⟩ (.int .i64 y.1.state)).setCell ⟨g + 1, 3, none⟩ (.int .i64 y.1.sq)).setCell ⟨g + 1, 4, none⟩ (.int .i64 y.1.peer)).setCell ⟨g + 1, 5, none⟩ (.int .i64 y.1.cc)).setCell ⟨g + 1, 6, none⟩ (.int .i64 y.1.ms)).setCell ⟨g + 1, 7, none⟩ (.string y.1.data)).setCell ⟨g + 1 + 1, 0, none⟩ (.slice P3.A1 y.2.sigs.length P3.c1)).setCell ⟨g + 1 + 1, 1, none⟩ (.slice P3.A2 y.2.units.length P3.c2)).setCell ⟨g + 1 + 1, 2, none⟩ (.bool y.2.begins)).setCell ⟨g + 1 + 1, 3, none⟩ (.bool y.2.ends)).setCell ⟨g + 1 + 1, 4, none⟩ (.int .i64 y.2.ms)).setCell ⟨g + 1 + 1, 5, none⟩ (.int .i64 y.2.timer)).drew (g) 59 [.int .i64 y.1.most, .int .i64 y.1.credit, .int .i64 y.1.state, .int .i64 y.1.sq, .int .i64 y.1.peer, .int .i64 y.1.cc, .int .i64 y.1.ms, .string y.1.data]) := Blk.drew hoq6_2C
    have HBOC6 : Hid (Blk ((((((((((((((w5.setCell ⟨g + 1, 0, none⟩ (.int .i64 y.1.most)).setCell ⟨g + 1, 1, none⟩ (.int .i64 y.1.credit)).setCell ⟨g + 1, 2, none⟩ (.int .i64 y.1.state)).setCell ⟨g + 1, 3, none⟩ (.int .i64 y.1.sq)).setCell ⟨g + 1, 4, none⟩ (.int .i64 y.1.peer)).setCell ⟨g + 1, 5, none⟩ (.int .i64 y.1.cc)).setCell ⟨g + 1, 6, none⟩ (.int .i64 y.1.ms)).setCell ⟨g + 1, 7, none⟩ (.string y.1.data)).setCell ⟨g + 1 + 1, 0, none⟩ (.slice P3.A1 y.2.sigs.length P3.c1)).setCell ⟨g + 1 + 1, 1, none⟩ (.slice P3.A2 y.2.units.length P3.c2)).setCell ⟨g + 1 + 1, 2, none⟩ (.bool y.2.begins)).setCell ⟨g + 1 + 1, 3, none⟩ (.bool y.2.ends)).setCell ⟨g + 1 + 1, 4, none⟩ (.int .i64 y.2.ms)).setCell ⟨g + 1 + 1, 5, none⟩ (.int .i64 y.2.timer)).drew (g + 1) 59 [.int .i64 y.1.most, .int .i64 y.1.credit, .int .i64 y.1.state, .int .i64 y.1.sq, .int .i64 y.1.peer, .int .i64 y.1.cc, .int .i64 y.1.ms, .string y.1.data]) := Blk.drew hoq6_2OC
    have HBOR6 : Hid (Blk ((((((((((((((w5.setCell ⟨g + 1, 0, none⟩ (.int .i64 y.1.most)).setCell ⟨g + 1, 1, none⟩ (.int .i64 y.1.credit)).setCell ⟨g + 1, 2, none⟩ (.int .i64 y.1.state)).setCell ⟨g + 1, 3, none⟩ (.int .i64 y.1.sq)).setCell ⟨g + 1, 4, none⟩ (.int .i64 y.1.peer)).setCell ⟨g + 1, 5, none⟩ (.int .i64 y.1.cc)).setCell ⟨g + 1, 6, none⟩ (.int .i64 y.1.ms)).setCell ⟨g + 1, 7, none⟩ (.string y.1.data)).setCell ⟨g + 1 + 1, 0, none⟩ (.slice P3.A1 y.2.sigs.length P3.c1)).setCell ⟨g + 1 + 1, 1, none⟩ (.slice P3.A2 y.2.units.length P3.c2)).setCell ⟨g + 1 + 1, 2, none⟩ (.bool y.2.begins)).setCell ⟨g + 1 + 1, 3, none⟩ (.bool y.2.ends)).setCell ⟨g + 1 + 1, 4, none⟩ (.int .i64 y.2.ms)).setCell ⟨g + 1 + 1, 5, none⟩ (.int .i64 y.2.timer)).drew (g + 1 + 1) 90 [.slice P3.A1 y.2.sigs.length P3.c1, .slice P3.A2 y.2.units.length P3.c2, .bool y.2.begins, .bool y.2.ends, .int .i64 y.2.ms, .int .i64 y.2.timer]) := Blk.drew hbq6_2
    have HBR6 : Hid (Blk ((((((((((((((w5.setCell ⟨g + 1, 0, none⟩ (.int .i64 y.1.most)).setCell ⟨g + 1, 1, none⟩ (.int .i64 y.1.credit)).setCell ⟨g + 1, 2, none⟩ (.int .i64 y.1.state)).setCell ⟨g + 1, 3, none⟩ (.int .i64 y.1.sq)).setCell ⟨g + 1, 4, none⟩ (.int .i64 y.1.peer)).setCell ⟨g + 1, 5, none⟩ (.int .i64 y.1.cc)).setCell ⟨g + 1, 6, none⟩ (.int .i64 y.1.ms)).setCell ⟨g + 1, 7, none⟩ (.string y.1.data)).setCell ⟨g + 1 + 1, 0, none⟩ (.slice P3.A1 y.2.sigs.length P3.c1)).setCell ⟨g + 1 + 1, 1, none⟩ (.slice P3.A2 y.2.units.length P3.c2)).setCell ⟨g + 1 + 1, 2, none⟩ (.bool y.2.begins)).setCell ⟨g + 1 + 1, 3, none⟩ (.bool y.2.ends)).setCell ⟨g + 1 + 1, 4, none⟩ (.int .i64 y.2.ms)).setCell ⟨g + 1 + 1, 5, none⟩ (.int .i64 y.2.timer)).drew (g + 1 + 1 + 1) 90 [.slice P3.A1 y.2.sigs.length P3.c1, .slice P3.A2 y.2.units.length P3.c2, .bool y.2.begins, .bool y.2.ends, .int .i64 y.2.ms, .int .i64 y.2.timer]) := Blk.drew hoq6_2R
    have HR6 := Lib.hid (RIn.old hrq6_2 (Touch.refl _ ((((((((((((((w5.setCell ⟨g + 1, 0, none⟩ (.int .i64 y.1.most)).setCell ⟨g + 1, 1, none⟩ (.int .i64 y.1.credit)).setCell ⟨g + 1, 2, none⟩ (.int .i64 y.1.state)).setCell ⟨g + 1, 3, none⟩ (.int .i64 y.1.sq)).setCell ⟨g + 1, 4, none⟩ (.int .i64 y.1.peer)).setCell ⟨g + 1, 5, none⟩ (.int .i64 y.1.cc)).setCell ⟨g + 1, 6, none⟩ (.int .i64 y.1.ms)).setCell ⟨g + 1, 7, none⟩ (.string y.1.data)).setCell ⟨g + 1 + 1, 0, none⟩ (.slice P3.A1 y.2.sigs.length P3.c1)).setCell ⟨g + 1 + 1, 1, none⟩ (.slice P3.A2 y.2.units.length P3.c2)).setCell ⟨g + 1 + 1, 2, none⟩ (.bool y.2.begins)).setCell ⟨g + 1 + 1, 3, none⟩ (.bool y.2.ends)).setCell ⟨g + 1 + 1, 4, none⟩ (.int .i64 y.2.ms)).setCell ⟨g + 1 + 1, 5, none⟩ (.int .i64 y.2.timer))).drew)
    have HT6 : Hid (Touch (OfAct K) w ((((((((((((((w5.setCell ⟨g + 1, 0, none⟩ (.int .i64 y.1.most)).setCell ⟨g + 1, 1, none⟩ (.int .i64 y.1.credit)).setCell ⟨g + 1, 2, none⟩ (.int .i64 y.1.state)).setCell ⟨g + 1, 3, none⟩ (.int .i64 y.1.sq)).setCell ⟨g + 1, 4, none⟩ (.int .i64 y.1.peer)).setCell ⟨g + 1, 5, none⟩ (.int .i64 y.1.cc)).setCell ⟨g + 1, 6, none⟩ (.int .i64 y.1.ms)).setCell ⟨g + 1, 7, none⟩ (.string y.1.data)).setCell ⟨g + 1 + 1, 0, none⟩ (.slice P3.A1 y.2.sigs.length P3.c1)).setCell ⟨g + 1 + 1, 1, none⟩ (.slice P3.A2 y.2.units.length P3.c2)).setCell ⟨g + 1 + 1, 2, none⟩ (.bool y.2.begins)).setCell ⟨g + 1 + 1, 3, none⟩ (.bool y.2.ends)).setCell ⟨g + 1 + 1, 4, none⟩ (.int .i64 y.2.ms)).setCell ⟨g + 1 + 1, 5, none⟩ (.int .i64 y.2.timer)).drew) := Touch.drew hTq6_2
    clear HBC5 HBOC5 HBOR5 HBR5 HR5 HT5 htq6_1 hbq6_1 hrq6_1 hTq6_1 hoq6_1C hoq6_1OR hoq6_1R htq6_2 hbq6_2 hrq6_2 hTq6_2 hoq6_2C hoq6_2OC hoq6_2R
    generalize ((((((((((((((w5.setCell ⟨g + 1, 0, none⟩ (.int .i64 y.1.most)).setCell ⟨g + 1, 1, none⟩ (.int .i64 y.1.credit)).setCell ⟨g + 1, 2, none⟩ (.int .i64 y.1.state)).setCell ⟨g + 1, 3, none⟩ (.int .i64 y.1.sq)).setCell ⟨g + 1, 4, none⟩ (.int .i64 y.1.peer)).setCell ⟨g + 1, 5, none⟩ (.int .i64 y.1.cc)).setCell ⟨g + 1, 6, none⟩ (.int .i64 y.1.ms)).setCell ⟨g + 1, 7, none⟩ (.string y.1.data)).setCell ⟨g + 1 + 1, 0, none⟩ (.slice P3.A1 y.2.sigs.length P3.c1)).setCell ⟨g + 1 + 1, 1, none⟩ (.slice P3.A2 y.2.units.length P3.c2)).setCell ⟨g + 1 + 1, 2, none⟩ (.bool y.2.begins)).setCell ⟨g + 1 + 1, 3, none⟩ (.bool y.2.ends)).setCell ⟨g + 1 + 1, 4, none⟩ (.int .i64 y.2.ms)).setCell ⟨g + 1 + 1, 5, none⟩ (.int .i64 y.2.timer)).drew = w6 at *
    have HX : Hid (∀ e, e = .returned (.tuple #[.agg #[.int .i64 y.1.most, .int .i64 y.1.credit, .int .i64 y.1.state, .int .i64 y.1.sq, .int .i64 y.1.peer, .int .i64 y.1.cc, .int .i64 y.1.ms, .string y.1.data], .agg #[.slice P3.A1 y.2.sigs.length P3.c1, .slice P3.A2 y.2.units.length P3.c2, .bool y.2.begins, .bool y.2.ends, .int .i64 y.2.ms, .int .i64 y.2.timer], .int .i64 0]) → RPost3 K (0 + 9) (Cn.ask (s, Cn.r0) 2 d) (0) w e w6) := fun e he => ⟨P3, he.trans (by (rw [HAE.out]; rfl)), by (refine ((HR6.out.less HL.out).wide (by omega)).eq ?_ ?_ <;> (rw [HAE.out])), HT6.out⟩
    have zOC0 : w6.cell? ⟨g + 1, 0, none⟩ = some (.int .i64 y.1.most) := HBOC6.out.cell 0
    have zOC1 : w6.cell? ⟨g + 1, 1, none⟩ = some (.int .i64 y.1.credit) := HBOC6.out.cell 1
    have zOC2 : w6.cell? ⟨g + 1, 2, none⟩ = some (.int .i64 y.1.state) := HBOC6.out.cell 2
    have zOC3 : w6.cell? ⟨g + 1, 3, none⟩ = some (.int .i64 y.1.sq) := HBOC6.out.cell 3
    have zOC4 : w6.cell? ⟨g + 1, 4, none⟩ = some (.int .i64 y.1.peer) := HBOC6.out.cell 4
    have zOC5 : w6.cell? ⟨g + 1, 5, none⟩ = some (.int .i64 y.1.cc) := HBOC6.out.cell 5
    have zOC6 : w6.cell? ⟨g + 1, 6, none⟩ = some (.int .i64 y.1.ms) := HBOC6.out.cell 6
    have zOC7 : w6.cell? ⟨g + 1, 7, none⟩ = some (.string y.1.data) := HBOC6.out.cell 7
    have zOR0 : w6.cell? ⟨g + 1 + 1, 0, none⟩ = some (.slice P3.A1 y.2.sigs.length P3.c1) := HBOR6.out.cell 0
    have zOR1 : w6.cell? ⟨g + 1 + 1, 1, none⟩ = some (.slice P3.A2 y.2.units.length P3.c2) := HBOR6.out.cell 1
    have zOR2 : w6.cell? ⟨g + 1 + 1, 2, none⟩ = some (.bool y.2.begins) := HBOR6.out.cell 2
    have zOR3 : w6.cell? ⟨g + 1 + 1, 3, none⟩ = some (.bool y.2.ends) := HBOR6.out.cell 3
    have zOR4 : w6.cell? ⟨g + 1 + 1, 4, none⟩ = some (.int .i64 y.2.ms) := HBOR6.out.cell 4
    have zOR5 : w6.cell? ⟨g + 1 + 1, 5, none⟩ = some (.int .i64 y.2.timer) := HBOR6.out.cell 5
    go_wp2
    exact bodyPost_ret (v := _) (by simp [results, Try.results53, go_sem, zOC0, zOC1, zOC2, zOC3, zOC4, zOC5, zOC6, zOC7, zOR0, zOR1, zOR2, zOR3, zOR4, zOR5]) rfl (HX.out _ rfl)

set_option maxHeartbeats 4000000 in
set_option maxRecDepth 100000 in
theorem rrequest_3n {K : Nat → Prop} {w : World} {s : Cn.S} (hlim : ∀ k, K k → k < w.heap.size) (d : ByteArray) (hd : d.size ≤ maxLen) (hq : 0 ≤ s.sq ∧ s.sq ≤ 255) (hb : Cn.bigAsk 3 d = false) (hm : Ru.refMay s.state 3 = true) (h3 : ¬ s.state = 3) :
    Calls Try.prog 53 #[rcV s, .int .i64 3, .string d] w (RPost3 K 9 (Cn.ask (s, Cn.r0) 3 d) (0) w) := by
  unfold rcV
  unfold maxLen at hd
  have h := RIn.nil (w := w) hlim
  have H3 := Lib.hid h3
  clear h3
  obtain ⟨w1, q0⟩ : ∃ x : World, x = ((((w.alloc (.cells #[.int .i64 s.most, .int .i64 s.credit, .int .i64 s.state, .int .i64 s.sq, .int .i64 s.peer, .int .i64 s.cc, .int .i64 s.ms, .string s.data] 59)).alloc (.cells #[.int .i64 0, .int .i64 0, .int .i64 0, .int .i64 0, .int .i64 0, .int .i64 0, .int .i64 0, .string { data := #[] }] 59)).alloc (.cells #[.slice none 0 0, .slice none 0 0, .bool false, .bool false, .int .i64 0, .int .i64 0] 90)).alloc (.cells #[.slice none 0 0, .slice none 0 0, .bool false, .bool false, .int .i64 0, .int .i64 0] 90)) := ⟨_, rfl⟩
  have q_w1 := Lib.hid q0
  clear q0
  have HF : Hid (Fresh w w1) := by rw [q_w1.out]; exact ((((Touch.refl _ w).alloc _).alloc _).alloc _).alloc _
  have HBC1 : Hid (Blk w1 (w.heap.size) 59 [.int .i64 s.most, .int .i64 s.credit, .int .i64 s.state, .int .i64 s.sq, .int .i64 s.peer, .int .i64 s.cc, .int .i64 s.ms, .string s.data]) := by
    rw [q_w1.out]
    have := (((Blk.new w 59 [.int .i64 s.most, .int .i64 s.credit, .int .i64 s.state, .int .i64 s.sq, .int .i64 s.peer, .int .i64 s.cc, .int .i64 s.ms, .string s.data]).alloc (.cells #[.int .i64 0, .int .i64 0, .int .i64 0, .int .i64 0, .int .i64 0, .int .i64 0, .int .i64 0, .string { data := #[] }] 59)).alloc (.cells #[.slice none 0 0, .slice none 0 0, .bool false, .bool false, .int .i64 0, .int .i64 0] 90)).alloc (.cells #[.slice none 0 0, .slice none 0 0, .bool false, .bool false, .int .i64 0, .int .i64 0] 90)
    exact this
  have HGC : Hid (Kept K w w1 (w.heap.size)) := by rw [q_w1.out]; exact .inr ⟨by omega, by simp; try omega⟩
  have HBOC1 : Hid (Blk w1 (w.heap.size + 1) 59 [.int .i64 0, .int .i64 0, .int .i64 0, .int .i64 0, .int .i64 0, .int .i64 0, .int .i64 0, .string { data := #[] }]) := by
    rw [q_w1.out]
    have := ((Blk.new (w.alloc (.cells #[.int .i64 s.most, .int .i64 s.credit, .int .i64 s.state, .int .i64 s.sq, .int .i64 s.peer, .int .i64 s.cc, .int .i64 s.ms, .string s.data] 59)) 59 [.int .i64 0, .int .i64 0, .int .i64 0, .int .i64 0, .int .i64 0, .int .i64 0, .int .i64 0, .string { data := #[] }]).alloc (.cells #[.slice none 0 0, .slice none 0 0, .bool false, .bool false, .int .i64 0, .int .i64 0] 90)).alloc (.cells #[.slice none 0 0, .slice none 0 0, .bool false, .bool false, .int .i64 0, .int .i64 0] 90)
    rwa [show (w.alloc (.cells #[.int .i64 s.most, .int .i64 s.credit, .int .i64 s.state, .int .i64 s.sq, .int .i64 s.peer, .int .i64 s.cc, .int .i64 s.ms, .string s.data] 59)).heap.size = w.heap.size + 1 by simp] at this
  have HGOC : Hid (Kept K w w1 (w.heap.size + 1)) := by rw [q_w1.out]; exact .inr ⟨by omega, by simp; try omega⟩
  have HBOR1 : Hid (Blk w1 (w.heap.size + 1 + 1) 90 [.slice none 0 0, .slice none 0 0, .bool false, .bool false, .int .i64 0, .int .i64 0]) := by
    rw [q_w1.out]
    have := (Blk.new ((w.alloc (.cells #[.int .i64 s.most, .int .i64 s.credit, .int .i64 s.state, .int .i64 s.sq, .int .i64 s.peer, .int .i64 s.cc, .int .i64 s.ms, .string s.data] 59)).alloc (.cells #[.int .i64 0, .int .i64 0, .int .i64 0, .int .i64 0, .int .i64 0, .int .i64 0, .int .i64 0, .string { data := #[] }] 59)) 90 [.slice none 0 0, .slice none 0 0, .bool false, .bool false, .int .i64 0, .int .i64 0]).alloc (.cells #[.slice none 0 0, .slice none 0 0, .bool false, .bool false, .int .i64 0, .int .i64 0] 90)
    rwa [show ((w.alloc (.cells #[.int .i64 s.most, .int .i64 s.credit, .int .i64 s.state, .int .i64 s.sq, .int .i64 s.peer, .int .i64 s.cc, .int .i64 s.ms, .string s.data] 59)).alloc (.cells #[.int .i64 0, .int .i64 0, .int .i64 0, .int .i64 0, .int .i64 0, .int .i64 0, .int .i64 0, .string { data := #[] }] 59)).heap.size = w.heap.size + 1 + 1 by simp] at this
  have HGOR : Hid (Kept K w w1 (w.heap.size + 1 + 1)) := by rw [q_w1.out]; exact .inr ⟨by omega, by simp; try omega⟩
  have HBR1 : Hid (Blk w1 (w.heap.size + 1 + 1 + 1) 90 [.slice none 0 0, .slice none 0 0, .bool false, .bool false, .int .i64 0, .int .i64 0]) := by
    rw [q_w1.out]
    have := Blk.new (((w.alloc (.cells #[.int .i64 s.most, .int .i64 s.credit, .int .i64 s.state, .int .i64 s.sq, .int .i64 s.peer, .int .i64 s.cc, .int .i64 s.ms, .string s.data] 59)).alloc (.cells #[.int .i64 0, .int .i64 0, .int .i64 0, .int .i64 0, .int .i64 0, .int .i64 0, .int .i64 0, .string { data := #[] }] 59)).alloc (.cells #[.slice none 0 0, .slice none 0 0, .bool false, .bool false, .int .i64 0, .int .i64 0] 90)) 90 [.slice none 0 0, .slice none 0 0, .bool false, .bool false, .int .i64 0, .int .i64 0]
    rwa [show (((w.alloc (.cells #[.int .i64 s.most, .int .i64 s.credit, .int .i64 s.state, .int .i64 s.sq, .int .i64 s.peer, .int .i64 s.cc, .int .i64 s.ms, .string s.data] 59)).alloc (.cells #[.int .i64 0, .int .i64 0, .int .i64 0, .int .i64 0, .int .i64 0, .int .i64 0, .int .i64 0, .string { data := #[] }] 59)).alloc (.cells #[.slice none 0 0, .slice none 0 0, .bool false, .bool false, .int .i64 0, .int .i64 0] 90)).heap.size = w.heap.size + 1 + 1 + 1 by simp] at this
  have HGR : Hid (Kept K w w1 (w.heap.size + 1 + 1 + 1)) := by rw [q_w1.out]; exact .inr ⟨by omega, by simp; try omega⟩
  have HL : Hid (∀ k, K k → Kept K w w1 k) := by rw [q_w1.out]; exact fun k e => .inl e
  have HLIM : Hid (∀ k, K k → k < w.heap.size) := h.lim
  have HR1 := Lib.hid (h.keep HF.out)
  have HT1 : Hid (Touch (OfAct K) w w1) := HF.out.mono (fun _ _ e => e.elim)
  clear h hlim HF
  go_enter Try.func53, Try.ntmps53
  go_upto_region 2 with (fail)
  rw [← q_w1.out]
  clear q_w1
  generalize Kept K w w1 = K1 at *
  generalize w.heap.size = g at *
  have h64 : decide (64 < (d.size : Int)) = false := by unfold Cn.bigAsk at hb; simpa using hb
  have HM := Lib.hid hm
  have HMAY := Lib.hid (refMay_any s.state 3 w1)
  have HQ := Lib.hid hq
  clear hb hm hq
  have b3 : (s.state == 3) = false := by simpa using H3.out
  have xC0 : w1.cell? ⟨g, 0, none⟩ = some (.int .i64 s.most) := HBC1.out.cell 0
  have xC1 : w1.cell? ⟨g, 1, none⟩ = some (.int .i64 s.credit) := HBC1.out.cell 1
  have xC2 : w1.cell? ⟨g, 2, none⟩ = some (.int .i64 s.state) := HBC1.out.cell 2
  have xC3 : w1.cell? ⟨g, 3, none⟩ = some (.int .i64 s.sq) := HBC1.out.cell 3
  have xC4 : w1.cell? ⟨g, 4, none⟩ = some (.int .i64 s.peer) := HBC1.out.cell 4
  have xC5 : w1.cell? ⟨g, 5, none⟩ = some (.int .i64 s.cc) := HBC1.out.cell 5
  have xC6 : w1.cell? ⟨g, 6, none⟩ = some (.int .i64 s.ms) := HBC1.out.cell 6
  have xC7 : w1.cell? ⟨g, 7, none⟩ = some (.string s.data) := HBC1.out.cell 7
  go_wp2_with fail
  refine HMAY.out.mono ?_
  rintro e w2 ⟨rfl, rfl⟩
  rw [HM.out]
  simp only
  clear xC0 xC1 xC2 xC3 xC4 xC5 xC6 xC7
  have xC0 : w1.cell? ⟨g, 0, none⟩ = some (.int .i64 s.most) := HBC1.out.cell 0
  have xC1 : w1.cell? ⟨g, 1, none⟩ = some (.int .i64 s.credit) := HBC1.out.cell 1
  have xC2 : w1.cell? ⟨g, 2, none⟩ = some (.int .i64 s.state) := HBC1.out.cell 2
  have xC3 : w1.cell? ⟨g, 3, none⟩ = some (.int .i64 s.sq) := HBC1.out.cell 3
  have xC4 : w1.cell? ⟨g, 4, none⟩ = some (.int .i64 s.peer) := HBC1.out.cell 4
  have xC5 : w1.cell? ⟨g, 5, none⟩ = some (.int .i64 s.cc) := HBC1.out.cell 5
  have xC6 : w1.cell? ⟨g, 6, none⟩ = some (.int .i64 s.ms) := HBC1.out.cell 6
  have xC7 : w1.cell? ⟨g, 7, none⟩ = some (.string s.data) := HBC1.out.cell 7
  have xR0 : w1.cell? ⟨g + 1 + 1 + 1, 0, none⟩ = some (.slice none 0 0) := HBR1.out.cell 0
  have xR1 : w1.cell? ⟨g + 1 + 1 + 1, 1, none⟩ = some (.slice none 0 0) := HBR1.out.cell 1
  have xR2 : w1.cell? ⟨g + 1 + 1 + 1, 2, none⟩ = some (.bool false) := HBR1.out.cell 2
  have xR3 : w1.cell? ⟨g + 1 + 1 + 1, 3, none⟩ = some (.bool false) := HBR1.out.cell 3
  have xR4 : w1.cell? ⟨g + 1 + 1 + 1, 4, none⟩ = some (.int .i64 0) := HBR1.out.cell 4
  have xR5 : w1.cell? ⟨g + 1 + 1 + 1, 5, none⟩ = some (.int .i64 0) := HBR1.out.cell 5
  go_wp2_with fail
  refine (rto_any (s := s) (r := Cn.r0) HR1.out 4 1).mono ?_
  rintro e w2 ⟨P2, rfl, hr2, ht2⟩
  simp only [rcV, rrV]
  have HBC2 := Lib.hid (ht2.keptB HBC1.out HGC.out)
  have HBOC2 := Lib.hid (ht2.keptB HBOC1.out HGOC.out)
  have HBOR2 := Lib.hid (ht2.keptB HBOR1.out HGOR.out)
  have HBR2 := Lib.hid (ht2.keptB HBR1.out HGR.out)
  have HR2 := Lib.hid hr2
  have HT2 : Hid (Touch (OfAct K) w w2) := HT1.out.trans (ht2.loose HL.out) (fun _ _ e => e)
  clear xC0 xC1 xC2 xC3 xC4 xC5 xC6 xC7 xR0 xR1 xR2 xR3 xR4 xR5
  clear hr2 ht2 HBC1 HBOC1 HBOR1 HBR1 HR1 HT1
  obtain ⟨y, hy⟩ : ∃ q_, Cn.toT (s, Cn.r0) 4 1 = q_ := ⟨_, rfl⟩
  have HYy := Lib.hid hy
  rw [hy]
  rw [hy] at HR2
  clear hy
  have xC0 : w2.cell? ⟨g, 0, none⟩ = some (.int .i64 s.most) := HBC2.out.cell 0
  have fC0 := HBC2.out.frozen 0
  have xC1 : w2.cell? ⟨g, 1, none⟩ = some (.int .i64 s.credit) := HBC2.out.cell 1
  have fC1 := HBC2.out.frozen 1
  have xC2 : w2.cell? ⟨g, 2, none⟩ = some (.int .i64 s.state) := HBC2.out.cell 2
  have fC2 := HBC2.out.frozen 2
  have xC3 : w2.cell? ⟨g, 3, none⟩ = some (.int .i64 s.sq) := HBC2.out.cell 3
  have fC3 := HBC2.out.frozen 3
  have xC4 : w2.cell? ⟨g, 4, none⟩ = some (.int .i64 s.peer) := HBC2.out.cell 4
  have fC4 := HBC2.out.frozen 4
  have xC5 : w2.cell? ⟨g, 5, none⟩ = some (.int .i64 s.cc) := HBC2.out.cell 5
  have fC5 := HBC2.out.frozen 5
  have xC6 : w2.cell? ⟨g, 6, none⟩ = some (.int .i64 s.ms) := HBC2.out.cell 6
  have fC6 := HBC2.out.frozen 6
  have xC7 : w2.cell? ⟨g, 7, none⟩ = some (.string s.data) := HBC2.out.cell 7
  have fC7 := HBC2.out.frozen 7
  have xR0 : w2.cell? ⟨g + 1 + 1 + 1, 0, none⟩ = some (.slice none 0 0) := HBR2.out.cell 0
  have fR0 := HBR2.out.frozen 0
  have xR1 : w2.cell? ⟨g + 1 + 1 + 1, 1, none⟩ = some (.slice none 0 0) := HBR2.out.cell 1
  have fR1 := HBR2.out.frozen 1
  have xR2 : w2.cell? ⟨g + 1 + 1 + 1, 2, none⟩ = some (.bool false) := HBR2.out.cell 2
  have fR2 := HBR2.out.frozen 2
  have xR3 : w2.cell? ⟨g + 1 + 1 + 1, 3, none⟩ = some (.bool false) := HBR2.out.cell 3
  have fR3 := HBR2.out.frozen 3
  have xR4 : w2.cell? ⟨g + 1 + 1 + 1, 4, none⟩ = some (.int .i64 0) := HBR2.out.cell 4
  have fR4 := HBR2.out.frozen 4
  have xR5 : w2.cell? ⟨g + 1 + 1 + 1, 5, none⟩ = some (.int .i64 0) := HBR2.out.cell 5
  have fR5 := HBR2.out.frozen 5
  go_upto_region 22 with (fail)
  have htq3_1 : Touch (· = g) w2 ((((((((w2.setCell ⟨g, 0, none⟩ (.int .i64 y.1.most)).setCell ⟨g, 1, none⟩ (.int .i64 y.1.credit)).setCell ⟨g, 2, none⟩ (.int .i64 y.1.state)).setCell ⟨g, 3, none⟩ (.int .i64 y.1.sq)).setCell ⟨g, 4, none⟩ (.int .i64 y.1.peer)).setCell ⟨g, 5, none⟩ (.int .i64 y.1.cc)).setCell ⟨g, 6, none⟩ (.int .i64 y.1.ms)).setCell ⟨g, 7, none⟩ (.string y.1.data)) := (((((((((Touch.refl _ w2).st (S := (· = g)) (u := .int .i64 y.1.most) (by exact rfl)).st (S := (· = g)) (u := .int .i64 y.1.credit) (by exact rfl)).st (S := (· = g)) (u := .int .i64 y.1.state) (by exact rfl)).st (S := (· = g)) (u := .int .i64 y.1.sq) (by exact rfl)).st (S := (· = g)) (u := .int .i64 y.1.peer) (by exact rfl)).st (S := (· = g)) (u := .int .i64 y.1.cc) (by exact rfl)).st (S := (· = g)) (u := .int .i64 y.1.ms) (by exact rfl)).st (S := (· = g)) (u := .string y.1.data) (by exact rfl))
  have hbq3_1 : Blk ((((((((w2.setCell ⟨g, 0, none⟩ (.int .i64 y.1.most)).setCell ⟨g, 1, none⟩ (.int .i64 y.1.credit)).setCell ⟨g, 2, none⟩ (.int .i64 y.1.state)).setCell ⟨g, 3, none⟩ (.int .i64 y.1.sq)).setCell ⟨g, 4, none⟩ (.int .i64 y.1.peer)).setCell ⟨g, 5, none⟩ (.int .i64 y.1.cc)).setCell ⟨g, 6, none⟩ (.int .i64 y.1.ms)).setCell ⟨g, 7, none⟩ (.string y.1.data)) (g) 59 [.int .i64 y.1.most, .int .i64 y.1.credit, .int .i64 y.1.state, .int .i64 y.1.sq, .int .i64 y.1.peer, .int .i64 y.1.cc, .int .i64 y.1.ms, .string y.1.data] := ((((((((HBC2.out.set 0 (.int .i64 y.1.most)).set 1 (.int .i64 y.1.credit)).set 2 (.int .i64 y.1.state)).set 3 (.int .i64 y.1.sq)).set 4 (.int .i64 y.1.peer)).set 5 (.int .i64 y.1.cc)).set 6 (.int .i64 y.1.ms)).set 7 (.string y.1.data))
  have hoq3_1OC := htq3_1.blk HBOC2.out (by intro e; have e : g + 1 = g := e; omega)
  have hoq3_1OR := htq3_1.blk HBOR2.out (by intro e; have e : g + 1 + 1 = g := e; omega)
  have hoq3_1R := htq3_1.blk HBR2.out (by intro e; have e : g + 1 + 1 + 1 = g := e; omega)
  have hrq3_1 := HR2.out.touch htq3_1 (fun k e => by have e : k = g := e; rw [e]; exact HGC.out)
  have hTq3_1 : Touch (OfAct K) w ((((((((w2.setCell ⟨g, 0, none⟩ (.int .i64 y.1.most)).setCell ⟨g, 1, none⟩ (.int .i64 y.1.credit)).setCell ⟨g, 2, none⟩ (.int .i64 y.1.state)).setCell ⟨g, 3, none⟩ (.int .i64 y.1.sq)).setCell ⟨g, 4, none⟩ (.int .i64 y.1.peer)).setCell ⟨g, 5, none⟩ (.int .i64 y.1.cc)).setCell ⟨g, 6, none⟩ (.int .i64 y.1.ms)).setCell ⟨g, 7, none⟩ (.string y.1.data)) := HT2.out.trans htq3_1 (fun k _ e => by have e : k = g := e; intro hk; have := HLIM.out k hk; omega)
  have htq3_2 : Touch (· = g + 1 + 1 + 1) ((((((((w2.setCell ⟨g, 0, none⟩ (.int .i64 y.1.most)).setCell ⟨g, 1, none⟩ (.int .i64 y.1.credit)).setCell ⟨g, 2, none⟩ (.int .i64 y.1.state)).setCell ⟨g, 3, none⟩ (.int .i64 y.1.sq)).setCell ⟨g, 4, none⟩ (.int .i64 y.1.peer)).setCell ⟨g, 5, none⟩ (.int .i64 y.1.cc)).setCell ⟨g, 6, none⟩ (.int .i64 y.1.ms)).setCell ⟨g, 7, none⟩ (.string y.1.data)) ((((((((((((((w2.setCell ⟨g, 0, none⟩ (.int .i64 y.1.most)).setCell ⟨g, 1, none⟩ (.int .i64 y.1.credit)).setCell ⟨g, 2, none⟩ (.int .i64 y.1.state)).setCell ⟨g, 3, none⟩ (.int .i64 y.1.sq)).setCell ⟨g, 4, none⟩ (.int .i64 y.1.peer)).setCell ⟨g, 5, none⟩ (.int .i64 y.1.cc)).setCell ⟨g, 6, none⟩ (.int .i64 y.1.ms)).setCell ⟨g, 7, none⟩ (.string y.1.data)).setCell ⟨g + 1 + 1 + 1, 0, none⟩ (.slice P2.A1 y.2.sigs.length P2.c1)).setCell ⟨g + 1 + 1 + 1, 1, none⟩ (.slice P2.A2 y.2.units.length P2.c2)).setCell ⟨g + 1 + 1 + 1, 2, none⟩ (.bool y.2.begins)).setCell ⟨g + 1 + 1 + 1, 3, none⟩ (.bool y.2.ends)).setCell ⟨g + 1 + 1 + 1, 4, none⟩ (.int .i64 y.2.ms)).setCell ⟨g + 1 + 1 + 1, 5, none⟩ (.int .i64 y.2.timer)) := (((((((Touch.refl _ ((((((((w2.setCell ⟨g, 0, none⟩ (.int .i64 y.1.most)).setCell ⟨g, 1, none⟩ (.int .i64 y.1.credit)).setCell ⟨g, 2, none⟩ (.int .i64 y.1.state)).setCell ⟨g, 3, none⟩ (.int .i64 y.1.sq)).setCell ⟨g, 4, none⟩ (.int .i64 y.1.peer)).setCell ⟨g, 5, none⟩ (.int .i64 y.1.cc)).setCell ⟨g, 6, none⟩ (.int .i64 y.1.ms)).setCell ⟨g, 7, none⟩ (.string y.1.data))).st (S := (· = g + 1 + 1 + 1)) (u := .slice P2.A1 y.2.sigs.length P2.c1) (by exact rfl)).st (S := (· = g + 1 + 1 + 1)) (u := .slice P2.A2 y.2.units.length P2.c2) (by exact rfl)).st (S := (· = g + 1 + 1 + 1)) (u := .bool y.2.begins) (by exact rfl)).st (S := (· = g + 1 + 1 + 1)) (u := .bool y.2.ends) (by exact rfl)).st (S := (· = g + 1 + 1 + 1)) (u := .int .i64 y.2.ms) (by exact rfl)).st (S := (· = g + 1 + 1 + 1)) (u := .int .i64 y.2.timer) (by exact rfl))
  have hbq3_2 : Blk ((((((((((((((w2.setCell ⟨g, 0, none⟩ (.int .i64 y.1.most)).setCell ⟨g, 1, none⟩ (.int .i64 y.1.credit)).setCell ⟨g, 2, none⟩ (.int .i64 y.1.state)).setCell ⟨g, 3, none⟩ (.int .i64 y.1.sq)).setCell ⟨g, 4, none⟩ (.int .i64 y.1.peer)).setCell ⟨g, 5, none⟩ (.int .i64 y.1.cc)).setCell ⟨g, 6, none⟩ (.int .i64 y.1.ms)).setCell ⟨g, 7, none⟩ (.string y.1.data)).setCell ⟨g + 1 + 1 + 1, 0, none⟩ (.slice P2.A1 y.2.sigs.length P2.c1)).setCell ⟨g + 1 + 1 + 1, 1, none⟩ (.slice P2.A2 y.2.units.length P2.c2)).setCell ⟨g + 1 + 1 + 1, 2, none⟩ (.bool y.2.begins)).setCell ⟨g + 1 + 1 + 1, 3, none⟩ (.bool y.2.ends)).setCell ⟨g + 1 + 1 + 1, 4, none⟩ (.int .i64 y.2.ms)).setCell ⟨g + 1 + 1 + 1, 5, none⟩ (.int .i64 y.2.timer)) (g + 1 + 1 + 1) 90 [.slice P2.A1 y.2.sigs.length P2.c1, .slice P2.A2 y.2.units.length P2.c2, .bool y.2.begins, .bool y.2.ends, .int .i64 y.2.ms, .int .i64 y.2.timer] := ((((((hoq3_1R.set 0 (.slice P2.A1 y.2.sigs.length P2.c1)).set 1 (.slice P2.A2 y.2.units.length P2.c2)).set 2 (.bool y.2.begins)).set 3 (.bool y.2.ends)).set 4 (.int .i64 y.2.ms)).set 5 (.int .i64 y.2.timer))
  have hoq3_2C := htq3_2.blk hbq3_1 (by intro e; have e : g = g + 1 + 1 + 1 := e; omega)
  have hoq3_2OC := htq3_2.blk hoq3_1OC (by intro e; have e : g + 1 = g + 1 + 1 + 1 := e; omega)
  have hoq3_2OR := htq3_2.blk hoq3_1OR (by intro e; have e : g + 1 + 1 = g + 1 + 1 + 1 := e; omega)
  have hrq3_2 := hrq3_1.touch htq3_2 (fun k e => by have e : k = g + 1 + 1 + 1 := e; rw [e]; exact HGR.out)
  have hTq3_2 : Touch (OfAct K) w ((((((((((((((w2.setCell ⟨g, 0, none⟩ (.int .i64 y.1.most)).setCell ⟨g, 1, none⟩ (.int .i64 y.1.credit)).setCell ⟨g, 2, none⟩ (.int .i64 y.1.state)).setCell ⟨g, 3, none⟩ (.int .i64 y.1.sq)).setCell ⟨g, 4, none⟩ (.int .i64 y.1.peer)).setCell ⟨g, 5, none⟩ (.int .i64 y.1.cc)).setCell ⟨g, 6, none⟩ (.int .i64 y.1.ms)).setCell ⟨g, 7, none⟩ (.string y.1.data)).setCell ⟨g + 1 + 1 + 1, 0, none⟩ (.slice P2.A1 y.2.sigs.length P2.c1)).setCell ⟨g + 1 + 1 + 1, 1, none⟩ (.slice P2.A2 y.2.units.length P2.c2)).setCell ⟨g + 1 + 1 + 1, 2, none⟩ (.bool y.2.begins)).setCell ⟨g + 1 + 1 + 1, 3, none⟩ (.bool y.2.ends)).setCell ⟨g + 1 + 1 + 1, 4, none⟩ (.int .i64 y.2.ms)).setCell ⟨g + 1 + 1 + 1, 5, none⟩ (.int .i64 y.2.timer)) := hTq3_1.trans htq3_2 (fun k _ e => by have e : k = g + 1 + 1 + 1 := e; intro hk; have := HLIM.out k hk; omega)
  obtain ⟨w3, q0⟩ : ∃ x : World, x = ((((((((((((((((w2.setCell ⟨g, 0, none⟩ (.int .i64 y.1.most)).setCell ⟨g, 1, none⟩ (.int .i64 y.1.credit)).setCell ⟨g, 2, none⟩ (.int .i64 y.1.state)).setCell ⟨g, 3, none⟩ (.int .i64 y.1.sq)).setCell ⟨g, 4, none⟩ (.int .i64 y.1.peer)).setCell ⟨g, 5, none⟩ (.int .i64 y.1.cc)).setCell ⟨g, 6, none⟩ (.int .i64 y.1.ms)).setCell ⟨g, 7, none⟩ (.string y.1.data)).setCell ⟨g + 1 + 1 + 1, 0, none⟩ (.slice P2.A1 y.2.sigs.length P2.c1)).setCell ⟨g + 1 + 1 + 1, 1, none⟩ (.slice P2.A2 y.2.units.length P2.c2)).setCell ⟨g + 1 + 1 + 1, 2, none⟩ (.bool y.2.begins)).setCell ⟨g + 1 + 1 + 1, 3, none⟩ (.bool y.2.ends)).setCell ⟨g + 1 + 1 + 1, 4, none⟩ (.int .i64 y.2.ms)).setCell ⟨g + 1 + 1 + 1, 5, none⟩ (.int .i64 y.2.timer)).setCell ⟨g, 5, none⟩ (.int .i64 1)).setCell ⟨g, 7, none⟩ (.string d)) := ⟨_, rfl⟩
  have q_w3 := Lib.hid q0
  clear q0
  have htq3_3 : Touch (· = g) ((((((((((((((w2.setCell ⟨g, 0, none⟩ (.int .i64 y.1.most)).setCell ⟨g, 1, none⟩ (.int .i64 y.1.credit)).setCell ⟨g, 2, none⟩ (.int .i64 y.1.state)).setCell ⟨g, 3, none⟩ (.int .i64 y.1.sq)).setCell ⟨g, 4, none⟩ (.int .i64 y.1.peer)).setCell ⟨g, 5, none⟩ (.int .i64 y.1.cc)).setCell ⟨g, 6, none⟩ (.int .i64 y.1.ms)).setCell ⟨g, 7, none⟩ (.string y.1.data)).setCell ⟨g + 1 + 1 + 1, 0, none⟩ (.slice P2.A1 y.2.sigs.length P2.c1)).setCell ⟨g + 1 + 1 + 1, 1, none⟩ (.slice P2.A2 y.2.units.length P2.c2)).setCell ⟨g + 1 + 1 + 1, 2, none⟩ (.bool y.2.begins)).setCell ⟨g + 1 + 1 + 1, 3, none⟩ (.bool y.2.ends)).setCell ⟨g + 1 + 1 + 1, 4, none⟩ (.int .i64 y.2.ms)).setCell ⟨g + 1 + 1 + 1, 5, none⟩ (.int .i64 y.2.timer)) w3 := by rw [q_w3.out]; exact (((Touch.refl _ ((((((((((((((w2.setCell ⟨g, 0, none⟩ (.int .i64 y.1.most)).setCell ⟨g, 1, none⟩ (.int .i64 y.1.credit)).setCell ⟨g, 2, none⟩ (.int .i64 y.1.state)).setCell ⟨g, 3, none⟩ (.int .i64 y.1.sq)).setCell ⟨g, 4, none⟩ (.int .i64 y.1.peer)).setCell ⟨g, 5, none⟩ (.int .i64 y.1.cc)).setCell ⟨g, 6, none⟩ (.int .i64 y.1.ms)).setCell ⟨g, 7, none⟩ (.string y.1.data)).setCell ⟨g + 1 + 1 + 1, 0, none⟩ (.slice P2.A1 y.2.sigs.length P2.c1)).setCell ⟨g + 1 + 1 + 1, 1, none⟩ (.slice P2.A2 y.2.units.length P2.c2)).setCell ⟨g + 1 + 1 + 1, 2, none⟩ (.bool y.2.begins)).setCell ⟨g + 1 + 1 + 1, 3, none⟩ (.bool y.2.ends)).setCell ⟨g + 1 + 1 + 1, 4, none⟩ (.int .i64 y.2.ms)).setCell ⟨g + 1 + 1 + 1, 5, none⟩ (.int .i64 y.2.timer))).st (S := (· = g)) (u := .int .i64 1) (by exact rfl)).st (S := (· = g)) (u := .string d) (by exact rfl))
  have hbq3_3 : Blk w3 (g) 59 [.int .i64 y.1.most, .int .i64 y.1.credit, .int .i64 y.1.state, .int .i64 y.1.sq, .int .i64 y.1.peer, .int .i64 1, .int .i64 y.1.ms, .string d] := by rw [q_w3.out]; exact ((hoq3_2C.set 5 (.int .i64 1)).set 7 (.string d))
  have hoq3_3OC := htq3_3.blk hoq3_2OC (by intro e; have e : g + 1 = g := e; omega)
  have hoq3_3OR := htq3_3.blk hoq3_2OR (by intro e; have e : g + 1 + 1 = g := e; omega)
  have hoq3_3R := htq3_3.blk hbq3_2 (by intro e; have e : g + 1 + 1 + 1 = g := e; omega)
  have hrq3_3 := hrq3_2.touch htq3_3 (fun k e => by have e : k = g := e; rw [e]; exact HGC.out)
  have hTq3_3 : Touch (OfAct K) w w3 := hTq3_2.trans htq3_3 (fun k _ e => by have e : k = g := e; intro hk; have := HLIM.out k hk; omega)
  clear xC0 fC0 xC1 fC1 xC2 fC2 xC3 fC3 xC4 fC4 xC5 fC5 xC6 fC6 xC7 fC7 xR0 fR0 xR1 fR1 xR2 fR2 xR3 fR3 xR4 fR4 xR5 fR5
  have HBC3 : Hid (Blk w3 (g) 59 [.int .i64 y.1.most, .int .i64 y.1.credit, .int .i64 y.1.state, .int .i64 y.1.sq, .int .i64 y.1.peer, .int .i64 1, .int .i64 y.1.ms, .string d]) := hbq3_3
  have HBOC3 : Hid (Blk w3 (g + 1) 59 [.int .i64 0, .int .i64 0, .int .i64 0, .int .i64 0, .int .i64 0, .int .i64 0, .int .i64 0, .string { data := #[] }]) := hoq3_3OC
  have HBOR3 : Hid (Blk w3 (g + 1 + 1) 90 [.slice none 0 0, .slice none 0 0, .bool false, .bool false, .int .i64 0, .int .i64 0]) := hoq3_3OR
  have HBR3 : Hid (Blk w3 (g + 1 + 1 + 1) 90 [.slice P2.A1 y.2.sigs.length P2.c1, .slice P2.A2 y.2.units.length P2.c2, .bool y.2.begins, .bool y.2.ends, .int .i64 y.2.ms, .int .i64 y.2.timer]) := hoq3_3R
  have HR3 := Lib.hid hrq3_3
  have HT3 : Hid (Touch (OfAct K) w w3) := hTq3_3
  clear HBC2 HBOC2 HBOR2 HBR2 HR2 HT2 htq3_1 hbq3_1 hrq3_1 hTq3_1 hoq3_1OC hoq3_1OR hoq3_1R htq3_2 hbq3_2 hrq3_2 hTq3_2 hoq3_2C hoq3_2OC hoq3_2OR htq3_3 hbq3_3 hrq3_3 hTq3_3 hoq3_3OC hoq3_3OR hoq3_3R
  rw [← q_w3.out]
  clear q_w3
  have xC0 : w3.cell? ⟨g, 0, none⟩ = some (.int .i64 y.1.most) := HBC3.out.cell 0
  have xC1 : w3.cell? ⟨g, 1, none⟩ = some (.int .i64 y.1.credit) := HBC3.out.cell 1
  have xC2 : w3.cell? ⟨g, 2, none⟩ = some (.int .i64 y.1.state) := HBC3.out.cell 2
  have xC3 : w3.cell? ⟨g, 3, none⟩ = some (.int .i64 y.1.sq) := HBC3.out.cell 3
  have xC4 : w3.cell? ⟨g, 4, none⟩ = some (.int .i64 y.1.peer) := HBC3.out.cell 4
  have xC5 : w3.cell? ⟨g, 5, none⟩ = some (.int .i64 1) := HBC3.out.cell 5
  have xC6 : w3.cell? ⟨g, 6, none⟩ = some (.int .i64 y.1.ms) := HBC3.out.cell 6
  have xC7 : w3.cell? ⟨g, 7, none⟩ = some (.string d) := HBC3.out.cell 7
  have xR0 : w3.cell? ⟨g + 1 + 1 + 1, 0, none⟩ = some (.slice P2.A1 y.2.sigs.length P2.c1) := HBR3.out.cell 0
  have xR1 : w3.cell? ⟨g + 1 + 1 + 1, 1, none⟩ = some (.slice P2.A2 y.2.units.length P2.c2) := HBR3.out.cell 1
  have xR2 : w3.cell? ⟨g + 1 + 1 + 1, 2, none⟩ = some (.bool y.2.begins) := HBR3.out.cell 2
  have xR3 : w3.cell? ⟨g + 1 + 1 + 1, 3, none⟩ = some (.bool y.2.ends) := HBR3.out.cell 3
  have xR4 : w3.cell? ⟨g + 1 + 1 + 1, 4, none⟩ = some (.int .i64 y.2.ms) := HBR3.out.cell 4
  have xR5 : w3.cell? ⟨g + 1 + 1 + 1, 5, none⟩ = some (.int .i64 y.2.timer) := HBR3.out.cell 5
  go_wp2_with fail
  refine (rout_any (s := { y.1 with cc := 1, data := d }) (r := y.2) HR3.out (by omega) 3 y.1.sq false d).mono ?_
  rintro e w4 ⟨P3, rfl, hr4, ht4⟩
  simp only [rcV, rrV]
  have HBC4 := Lib.hid (ht4.keptB HBC3.out HGC.out)
  have HBOC4 := Lib.hid (ht4.keptB HBOC3.out HGOC.out)
  have HBOR4 := Lib.hid (ht4.keptB HBOR3.out HGOR.out)
  have HBR4 := Lib.hid (ht4.keptB HBR3.out HGR.out)
  have HR4 := Lib.hid hr4
  have HT4 : Hid (Touch (OfAct K) w w4) := HT3.out.trans (ht4.loose HL.out) (fun _ _ e => e)
  clear xC0 xC1 xC2 xC3 xC4 xC5 xC6 xC7 xR0 xR1 xR2 xR3 xR4 xR5
  clear hr4 ht4 HBC3 HBOC3 HBOR3 HBR3 HR3 HT3
  obtain ⟨z, hz⟩ : ∃ q_, (Cn.out ({ y.1 with cc := 1, data := d }, y.2) (Cn.unit_ 3 y.1.sq false d)).2 = q_ := ⟨_, rfl⟩
  have HZz := Lib.hid hz
  rw [hz]
  rw [hz] at HR4
  clear hz
  have xC0 : w4.cell? ⟨g, 0, none⟩ = some (.int .i64 y.1.most) := HBC4.out.cell 0
  have xC1 : w4.cell? ⟨g, 1, none⟩ = some (.int .i64 y.1.credit) := HBC4.out.cell 1
  have xC2 : w4.cell? ⟨g, 2, none⟩ = some (.int .i64 y.1.state) := HBC4.out.cell 2
  have xC3 : w4.cell? ⟨g, 3, none⟩ = some (.int .i64 y.1.sq) := HBC4.out.cell 3
  have xC4 : w4.cell? ⟨g, 4, none⟩ = some (.int .i64 y.1.peer) := HBC4.out.cell 4
  have xC5 : w4.cell? ⟨g, 5, none⟩ = some (.int .i64 1) := HBC4.out.cell 5
  have xC6 : w4.cell? ⟨g, 6, none⟩ = some (.int .i64 y.1.ms) := HBC4.out.cell 6
  have xC7 : w4.cell? ⟨g, 7, none⟩ = some (.string d) := HBC4.out.cell 7
  have xR0 : w4.cell? ⟨g + 1 + 1 + 1, 0, none⟩ = some (.slice P2.A1 y.2.sigs.length P2.c1) := HBR4.out.cell 0
  have fR0 := HBR4.out.frozen 0
  have xR1 : w4.cell? ⟨g + 1 + 1 + 1, 1, none⟩ = some (.slice P2.A2 y.2.units.length P2.c2) := HBR4.out.cell 1
  have fR1 := HBR4.out.frozen 1
  have xR2 : w4.cell? ⟨g + 1 + 1 + 1, 2, none⟩ = some (.bool y.2.begins) := HBR4.out.cell 2
  have fR2 := HBR4.out.frozen 2
  have xR3 : w4.cell? ⟨g + 1 + 1 + 1, 3, none⟩ = some (.bool y.2.ends) := HBR4.out.cell 3
  have fR3 := HBR4.out.frozen 3
  have xR4 : w4.cell? ⟨g + 1 + 1 + 1, 4, none⟩ = some (.int .i64 y.2.ms) := HBR4.out.cell 4
  have fR4 := HBR4.out.frozen 4
  have xR5 : w4.cell? ⟨g + 1 + 1 + 1, 5, none⟩ = some (.int .i64 y.2.timer) := HBR4.out.cell 5
  have fR5 := HBR4.out.frozen 5
  go_wp2
  obtain ⟨w5, q0⟩ : ∃ x : World, x = ((((((w4.setCell ⟨g + 1 + 1 + 1, 0, none⟩ (.slice P3.A1 z.sigs.length P3.c1)).setCell ⟨g + 1 + 1 + 1, 1, none⟩ (.slice P3.A2 z.units.length P3.c2)).setCell ⟨g + 1 + 1 + 1, 2, none⟩ (.bool z.begins)).setCell ⟨g + 1 + 1 + 1, 3, none⟩ (.bool z.ends)).setCell ⟨g + 1 + 1 + 1, 4, none⟩ (.int .i64 z.ms)).setCell ⟨g + 1 + 1 + 1, 5, none⟩ (.int .i64 z.timer)) := ⟨_, rfl⟩
  have q_w5 := Lib.hid q0
  clear q0
  have htq5_1 : Touch (· = g + 1 + 1 + 1) w4 w5 := by rw [q_w5.out]; exact (((((((Touch.refl _ w4).st (S := (· = g + 1 + 1 + 1)) (u := .slice P3.A1 z.sigs.length P3.c1) (by exact rfl)).st (S := (· = g + 1 + 1 + 1)) (u := .slice P3.A2 z.units.length P3.c2) (by exact rfl)).st (S := (· = g + 1 + 1 + 1)) (u := .bool z.begins) (by exact rfl)).st (S := (· = g + 1 + 1 + 1)) (u := .bool z.ends) (by exact rfl)).st (S := (· = g + 1 + 1 + 1)) (u := .int .i64 z.ms) (by exact rfl)).st (S := (· = g + 1 + 1 + 1)) (u := .int .i64 z.timer) (by exact rfl))
  have hbq5_1 : Blk w5 (g + 1 + 1 + 1) 90 [.slice P3.A1 z.sigs.length P3.c1, .slice P3.A2 z.units.length P3.c2, .bool z.begins, .bool z.ends, .int .i64 z.ms, .int .i64 z.timer] := by rw [q_w5.out]; exact ((((((HBR4.out.set 0 (.slice P3.A1 z.sigs.length P3.c1)).set 1 (.slice P3.A2 z.units.length P3.c2)).set 2 (.bool z.begins)).set 3 (.bool z.ends)).set 4 (.int .i64 z.ms)).set 5 (.int .i64 z.timer))
  have hoq5_1C := htq5_1.blk HBC4.out (by intro e; have e : g = g + 1 + 1 + 1 := e; omega)
  have hoq5_1OC := htq5_1.blk HBOC4.out (by intro e; have e : g + 1 = g + 1 + 1 + 1 := e; omega)
  have hoq5_1OR := htq5_1.blk HBOR4.out (by intro e; have e : g + 1 + 1 = g + 1 + 1 + 1 := e; omega)
  have hrq5_1 := HR4.out.touch htq5_1 (fun k e => by have e : k = g + 1 + 1 + 1 := e; rw [e]; exact HGR.out)
  have hTq5_1 : Touch (OfAct K) w w5 := HT4.out.trans htq5_1 (fun k _ e => by have e : k = g + 1 + 1 + 1 := e; intro hk; have := HLIM.out k hk; omega)
  clear xC0 xC1 xC2 xC3 xC4 xC5 xC6 xC7 xR0 fR0 xR1 fR1 xR2 fR2 xR3 fR3 xR4 fR4 xR5 fR5
  have HBC5 : Hid (Blk w5 (g) 59 [.int .i64 y.1.most, .int .i64 y.1.credit, .int .i64 y.1.state, .int .i64 y.1.sq, .int .i64 y.1.peer, .int .i64 1, .int .i64 y.1.ms, .string d]) := hoq5_1C
  have HBOC5 : Hid (Blk w5 (g + 1) 59 [.int .i64 0, .int .i64 0, .int .i64 0, .int .i64 0, .int .i64 0, .int .i64 0, .int .i64 0, .string { data := #[] }]) := hoq5_1OC
  have HBOR5 : Hid (Blk w5 (g + 1 + 1) 90 [.slice none 0 0, .slice none 0 0, .bool false, .bool false, .int .i64 0, .int .i64 0]) := hoq5_1OR
  have HBR5 : Hid (Blk w5 (g + 1 + 1 + 1) 90 [.slice P3.A1 z.sigs.length P3.c1, .slice P3.A2 z.units.length P3.c2, .bool z.begins, .bool z.ends, .int .i64 z.ms, .int .i64 z.timer]) := hbq5_1
  have HR5 := Lib.hid hrq5_1
  have HT5 : Hid (Touch (OfAct K) w w5) := hTq5_1
  clear HBC4 HBOC4 HBOR4 HBR4 HR4 HT4 htq5_1 hbq5_1 hrq5_1 hTq5_1 hoq5_1C hoq5_1OC hoq5_1OR
  rw [← q_w5.out]
  clear q_w5
  have xC0 : w5.cell? ⟨g, 0, none⟩ = some (.int .i64 y.1.most) := HBC5.out.cell 0
  have xC1 : w5.cell? ⟨g, 1, none⟩ = some (.int .i64 y.1.credit) := HBC5.out.cell 1
  have xC2 : w5.cell? ⟨g, 2, none⟩ = some (.int .i64 y.1.state) := HBC5.out.cell 2
  have xC3 : w5.cell? ⟨g, 3, none⟩ = some (.int .i64 y.1.sq) := HBC5.out.cell 3
  have xC4 : w5.cell? ⟨g, 4, none⟩ = some (.int .i64 y.1.peer) := HBC5.out.cell 4
  have xC5 : w5.cell? ⟨g, 5, none⟩ = some (.int .i64 1) := HBC5.out.cell 5
  have xC6 : w5.cell? ⟨g, 6, none⟩ = some (.int .i64 y.1.ms) := HBC5.out.cell 6
  have xC7 : w5.cell? ⟨g, 7, none⟩ = some (.string d) := HBC5.out.cell 7
  have xR0 : w5.cell? ⟨g + 1 + 1 + 1, 0, none⟩ = some (.slice P3.A1 z.sigs.length P3.c1) := HBR5.out.cell 0
  have xR1 : w5.cell? ⟨g + 1 + 1 + 1, 1, none⟩ = some (.slice P3.A2 z.units.length P3.c2) := HBR5.out.cell 1
  have xR2 : w5.cell? ⟨g + 1 + 1 + 1, 2, none⟩ = some (.bool z.begins) := HBR5.out.cell 2
  have xR3 : w5.cell? ⟨g + 1 + 1 + 1, 3, none⟩ = some (.bool z.ends) := HBR5.out.cell 3
  have xR4 : w5.cell? ⟨g + 1 + 1 + 1, 4, none⟩ = some (.int .i64 z.ms) := HBR5.out.cell 4
  have xR5 : w5.cell? ⟨g + 1 + 1 + 1, 5, none⟩ = some (.int .i64 z.timer) := HBR5.out.cell 5
  have xOC0 : w5.cell? ⟨g + 1, 0, none⟩ = some (.int .i64 0) := HBOC5.out.cell 0
  have fOC0 := HBOC5.out.frozen 0
  have xOC1 : w5.cell? ⟨g + 1, 1, none⟩ = some (.int .i64 0) := HBOC5.out.cell 1
  have fOC1 := HBOC5.out.frozen 1
  have xOC2 : w5.cell? ⟨g + 1, 2, none⟩ = some (.int .i64 0) := HBOC5.out.cell 2
  have fOC2 := HBOC5.out.frozen 2
  have xOC3 : w5.cell? ⟨g + 1, 3, none⟩ = some (.int .i64 0) := HBOC5.out.cell 3
  have fOC3 := HBOC5.out.frozen 3
  have xOC4 : w5.cell? ⟨g + 1, 4, none⟩ = some (.int .i64 0) := HBOC5.out.cell 4
  have fOC4 := HBOC5.out.frozen 4
  have xOC5 : w5.cell? ⟨g + 1, 5, none⟩ = some (.int .i64 0) := HBOC5.out.cell 5
  have fOC5 := HBOC5.out.frozen 5
  have xOC6 : w5.cell? ⟨g + 1, 6, none⟩ = some (.int .i64 0) := HBOC5.out.cell 6
  have fOC6 := HBOC5.out.frozen 6
  have xOC7 : w5.cell? ⟨g + 1, 7, none⟩ = some (.string { data := #[] }) := HBOC5.out.cell 7
  have fOC7 := HBOC5.out.frozen 7
  have xOR0 : w5.cell? ⟨g + 1 + 1, 0, none⟩ = some (.slice none 0 0) := HBOR5.out.cell 0
  have fOR0 := HBOR5.out.frozen 0
  have xOR1 : w5.cell? ⟨g + 1 + 1, 1, none⟩ = some (.slice none 0 0) := HBOR5.out.cell 1
  have fOR1 := HBOR5.out.frozen 1
  have xOR2 : w5.cell? ⟨g + 1 + 1, 2, none⟩ = some (.bool false) := HBOR5.out.cell 2
  have fOR2 := HBOR5.out.frozen 2
  have xOR3 : w5.cell? ⟨g + 1 + 1, 3, none⟩ = some (.bool false) := HBOR5.out.cell 3
  have fOR3 := HBOR5.out.frozen 3
  have xOR4 : w5.cell? ⟨g + 1 + 1, 4, none⟩ = some (.int .i64 0) := HBOR5.out.cell 4
  have fOR4 := HBOR5.out.frozen 4
  have xOR5 : w5.cell? ⟨g + 1 + 1, 5, none⟩ = some (.int .i64 0) := HBOR5.out.cell 5
  have fOR5 := HBOR5.out.frozen 5
  go_region
  have htq6_1 : Touch (· = g + 1) w5 ((((((((w5.setCell ⟨g + 1, 0, none⟩ (.int .i64 y.1.most)).setCell ⟨g + 1, 1, none⟩ (.int .i64 y.1.credit)).setCell ⟨g + 1, 2, none⟩ (.int .i64 y.1.state)).setCell ⟨g + 1, 3, none⟩ (.int .i64 y.1.sq)).setCell ⟨g + 1, 4, none⟩ (.int .i64 y.1.peer)).setCell ⟨g + 1, 5, none⟩ (.int .i64 1)).setCell ⟨g + 1, 6, none⟩ (.int .i64 y.1.ms)).setCell ⟨g + 1, 7, none⟩ (.string d)) := (((((((((Touch.refl _ w5).st (S := (· = g + 1)) (u := .int .i64 y.1.most) (by exact rfl)).st (S := (· = g + 1)) (u := .int .i64 y.1.credit) (by exact rfl)).st (S := (· = g + 1)) (u := .int .i64 y.1.state) (by exact rfl)).st (S := (· = g + 1)) (u := .int .i64 y.1.sq) (by exact rfl)).st (S := (· = g + 1)) (u := .int .i64 y.1.peer) (by exact rfl)).st (S := (· = g + 1)) (u := .int .i64 1) (by exact rfl)).st (S := (· = g + 1)) (u := .int .i64 y.1.ms) (by exact rfl)).st (S := (· = g + 1)) (u := .string d) (by exact rfl))
  have hbq6_1 : Blk ((((((((w5.setCell ⟨g + 1, 0, none⟩ (.int .i64 y.1.most)).setCell ⟨g + 1, 1, none⟩ (.int .i64 y.1.credit)).setCell ⟨g + 1, 2, none⟩ (.int .i64 y.1.state)).setCell ⟨g + 1, 3, none⟩ (.int .i64 y.1.sq)).setCell ⟨g + 1, 4, none⟩ (.int .i64 y.1.peer)).setCell ⟨g + 1, 5, none⟩ (.int .i64 1)).setCell ⟨g + 1, 6, none⟩ (.int .i64 y.1.ms)).setCell ⟨g + 1, 7, none⟩ (.string d)) (g + 1) 59 [.int .i64 y.1.most, .int .i64 y.1.credit, .int .i64 y.1.state, .int .i64 y.1.sq, .int .i64 y.1.peer, .int .i64 1, .int .i64 y.1.ms, .string d] := ((((((((HBOC5.out.set 0 (.int .i64 y.1.most)).set 1 (.int .i64 y.1.credit)).set 2 (.int .i64 y.1.state)).set 3 (.int .i64 y.1.sq)).set 4 (.int .i64 y.1.peer)).set 5 (.int .i64 1)).set 6 (.int .i64 y.1.ms)).set 7 (.string d))
  have hoq6_1C := htq6_1.blk HBC5.out (by intro e; have e : g = g + 1 := e; omega)
  have hoq6_1OR := htq6_1.blk HBOR5.out (by intro e; have e : g + 1 + 1 = g + 1 := e; omega)
  have hoq6_1R := htq6_1.blk HBR5.out (by intro e; have e : g + 1 + 1 + 1 = g + 1 := e; omega)
  have hrq6_1 := HR5.out.touch htq6_1 (fun k e => by have e : k = g + 1 := e; rw [e]; exact HGOC.out)
  have hTq6_1 : Touch (OfAct K) w ((((((((w5.setCell ⟨g + 1, 0, none⟩ (.int .i64 y.1.most)).setCell ⟨g + 1, 1, none⟩ (.int .i64 y.1.credit)).setCell ⟨g + 1, 2, none⟩ (.int .i64 y.1.state)).setCell ⟨g + 1, 3, none⟩ (.int .i64 y.1.sq)).setCell ⟨g + 1, 4, none⟩ (.int .i64 y.1.peer)).setCell ⟨g + 1, 5, none⟩ (.int .i64 1)).setCell ⟨g + 1, 6, none⟩ (.int .i64 y.1.ms)).setCell ⟨g + 1, 7, none⟩ (.string d)) := HT5.out.trans htq6_1 (fun k _ e => by have e : k = g + 1 := e; intro hk; have := HLIM.out k hk; omega)
  have htq6_2 : Touch (· = g + 1 + 1) ((((((((w5.setCell ⟨g + 1, 0, none⟩ (.int .i64 y.1.most)).setCell ⟨g + 1, 1, none⟩ (.int .i64 y.1.credit)).setCell ⟨g + 1, 2, none⟩ (.int .i64 y.1.state)).setCell ⟨g + 1, 3, none⟩ (.int .i64 y.1.sq)).setCell ⟨g + 1, 4, none⟩ (.int .i64 y.1.peer)).setCell ⟨g + 1, 5, none⟩ (.int .i64 1)).setCell ⟨g + 1, 6, none⟩ (.int .i64 y.1.ms)).setCell ⟨g + 1, 7, none⟩ (.string d)) ((((((((((((((w5.setCell ⟨g + 1, 0, none⟩ (.int .i64 y.1.most)).setCell ⟨g + 1, 1, none⟩ (.int .i64 y.1.credit)).setCell ⟨g + 1, 2, none⟩ (.int .i64 y.1.state)).setCell ⟨g + 1, 3, none⟩ (.int .i64 y.1.sq)).setCell ⟨g + 1, 4, none⟩ (.int .i64 y.1.peer)).setCell ⟨g + 1, 5, none⟩ (.int .i64 1)).setCell ⟨g + 1, 6, none⟩ (.int .i64 y.1.ms)).setCell ⟨g + 1, 7, none⟩ (.string d)).setCell ⟨g + 1 + 1, 0, none⟩ (.slice P3.A1 z.sigs.length P3.c1)).setCell ⟨g + 1 + 1, 1, none⟩ (.slice P3.A2 z.units.length P3.c2)).setCell ⟨g + 1 + 1, 2, none⟩ (.bool z.begins)).setCell ⟨g + 1 + 1, 3, none⟩ (.bool z.ends)).setCell ⟨g + 1 + 1, 4, none⟩ (.int .i64 z.ms)).setCell ⟨g + 1 + 1, 5, none⟩ (.int .i64 z.timer)) := (((((((Touch.refl _ ((((((((w5.setCell ⟨g + 1, 0, none⟩ (.int .i64 y.1.most)).setCell ⟨g + 1, 1, none⟩ (.int .i64 y.1.credit)).setCell ⟨g + 1, 2, none⟩ (.int .i64 y.1.state)).setCell ⟨g + 1, 3, none⟩ (.int .i64 y.1.sq)).setCell ⟨g + 1, 4, none⟩ (.int .i64 y.1.peer)).setCell ⟨g + 1, 5, none⟩ (.int .i64 1)).setCell ⟨g + 1, 6, none⟩ (.int .i64 y.1.ms)).setCell ⟨g + 1, 7, none⟩ (.string d))).st (S := (· = g + 1 + 1)) (u := .slice P3.A1 z.sigs.length P3.c1) (by exact rfl)).st (S := (· = g + 1 + 1)) (u := .slice P3.A2 z.units.length P3.c2) (by exact rfl)).st (S := (· = g + 1 + 1)) (u := .bool z.begins) (by exact rfl)).st (S := (· = g + 1 + 1)) (u := .bool z.ends) (by exact rfl)).st (S := (· = g + 1 + 1)) (u := .int .i64 z.ms) (by exact rfl)).st (S := (· = g + 1 + 1)) (u := .int .i64 z.timer) (by exact rfl))
  have hbq6_2 : Blk ((((((((((((((w5.setCell ⟨g + 1, 0, none⟩ (.int .i64 y.1.most)).setCell ⟨g + 1, 1, none⟩ (.int .i64 y.1.credit)).setCell ⟨g + 1, 2, none⟩ (.int .i64 y.1.state)).setCell ⟨g + 1, 3, none⟩ (.int .i64 y.1.sq)).setCell ⟨g + 1, 4, none⟩ (.int .i64 y.1.peer)).setCell ⟨g + 1, 5, none⟩ (.int .i64 1)).setCell ⟨g + 1, 6, none⟩ (.int .i64 y.1.ms)).setCell ⟨g + 1, 7, none⟩ (.string d)).setCell ⟨g + 1 + 1, 0, none⟩ (.slice P3.A1 z.sigs.length P3.c1)).setCell ⟨g + 1 + 1, 1, none⟩ (.slice P3.A2 z.units.length P3.c2)).setCell ⟨g + 1 + 1, 2, none⟩ (.bool z.begins)).setCell ⟨g + 1 + 1, 3, none⟩ (.bool z.ends)).setCell ⟨g + 1 + 1, 4, none⟩ (.int .i64 z.ms)).setCell ⟨g + 1 + 1, 5, none⟩ (.int .i64 z.timer)) (g + 1 + 1) 90 [.slice P3.A1 z.sigs.length P3.c1, .slice P3.A2 z.units.length P3.c2, .bool z.begins, .bool z.ends, .int .i64 z.ms, .int .i64 z.timer] := ((((((hoq6_1OR.set 0 (.slice P3.A1 z.sigs.length P3.c1)).set 1 (.slice P3.A2 z.units.length P3.c2)).set 2 (.bool z.begins)).set 3 (.bool z.ends)).set 4 (.int .i64 z.ms)).set 5 (.int .i64 z.timer))
  have hoq6_2C := htq6_2.blk hoq6_1C (by intro e; have e : g = g + 1 + 1 := e; omega)
  have hoq6_2OC := htq6_2.blk hbq6_1 (by intro e; have e : g + 1 = g + 1 + 1 := e; omega)
  have hoq6_2R := htq6_2.blk hoq6_1R (by intro e; have e : g + 1 + 1 + 1 = g + 1 + 1 := e; omega)
  have hrq6_2 := hrq6_1.touch htq6_2 (fun k e => by have e : k = g + 1 + 1 := e; rw [e]; exact HGOR.out)
  have hTq6_2 : Touch (OfAct K) w ((((((((((((((w5.setCell ⟨g + 1, 0, none⟩ (.int .i64 y.1.most)).setCell ⟨g + 1, 1, none⟩ (.int .i64 y.1.credit)).setCell ⟨g + 1, 2, none⟩ (.int .i64 y.1.state)).setCell ⟨g + 1, 3, none⟩ (.int .i64 y.1.sq)).setCell ⟨g + 1, 4, none⟩ (.int .i64 y.1.peer)).setCell ⟨g + 1, 5, none⟩ (.int .i64 1)).setCell ⟨g + 1, 6, none⟩ (.int .i64 y.1.ms)).setCell ⟨g + 1, 7, none⟩ (.string d)).setCell ⟨g + 1 + 1, 0, none⟩ (.slice P3.A1 z.sigs.length P3.c1)).setCell ⟨g + 1 + 1, 1, none⟩ (.slice P3.A2 z.units.length P3.c2)).setCell ⟨g + 1 + 1, 2, none⟩ (.bool z.begins)).setCell ⟨g + 1 + 1, 3, none⟩ (.bool z.ends)).setCell ⟨g + 1 + 1, 4, none⟩ (.int .i64 z.ms)).setCell ⟨g + 1 + 1, 5, none⟩ (.int .i64 z.timer)) := hTq6_1.trans htq6_2 (fun k _ e => by have e : k = g + 1 + 1 := e; intro hk; have := HLIM.out k hk; omega)
  clear xC0 xC1 xC2 xC3 xC4 xC5 xC6 xC7 xR0 xR1 xR2 xR3 xR4 xR5 xOC0 fOC0 xOC1 fOC1 xOC2 fOC2 xOC3 fOC3 xOC4 fOC4 xOC5 fOC5 xOC6 fOC6 xOC7 fOC7 xOR0 fOR0 xOR1 fOR1 xOR2 fOR2 xOR3 fOR3 xOR4 fOR4 xOR5 fOR5
  have HBC6 : Hid (Blk ((((((((((((((w5.setCell ⟨g + 1, 0, none⟩ (.int .i64 y.1.most)).setCell ⟨g + 1, 1, none⟩ (.int .i64 y.1.credit)).setCell ⟨g + 1, 2, none⟩ (.int .i64 y.1.state)).setCell ⟨g + 1, 3, none⟩ (.int .i64 y.1.sq)).setCell ⟨g + 1, 4, none⟩ (.int .i64 y.1.peer)).setCell ⟨g + 1, 5, none⟩ (.int .i64 1)).setCell ⟨g + 1, 6, none⟩ (.int .i64 y.1.ms)).setCell ⟨g + 1, 7, none⟩ (.string d)).setCell ⟨g + 1 + 1, 0, none⟩ (.slice P3.A1 z.sigs.length P3.c1)).setCell ⟨g + 1 + 1, 1, none⟩ (.slice P3.A2 z.units.length P3.c2)).setCell ⟨g + 1 + 1, 2, none⟩ (.bool z.begins)).setCell ⟨g + 1 + 1, 3, none⟩ (.bool z.ends)).setCell ⟨g + 1 + 1, 4, none⟩ (.int .i64 z.ms)).setCell ⟨g + 1 + 1, 5, none⟩ (.int .i64 z.timer)).drew (g) 59 [.int .i64 y.1.most, .int .i64 y.1.credit, .int .i64 y.1.state, .int .i64 y.1.sq, .int .i64 y.1.peer, .int .i64 1, .int .i64 y.1.ms, .string d]) := Blk.drew hoq6_2C
  have HBOC6 : Hid (Blk ((((((((((((((w5.setCell ⟨g + 1, 0, none⟩ (.int .i64 y.1.most)).setCell ⟨g + 1, 1, none⟩ (.int .i64 y.1.credit)).setCell ⟨g + 1, 2, none⟩ (.int .i64 y.1.state)).setCell ⟨g + 1, 3, none⟩ (.int .i64 y.1.sq)).setCell ⟨g + 1, 4, none⟩ (.int .i64 y.1.peer)).setCell ⟨g + 1, 5, none⟩ (.int .i64 1)).setCell ⟨g + 1, 6, none⟩ (.int .i64 y.1.ms)).setCell ⟨g + 1, 7, none⟩ (.string d)).setCell ⟨g + 1 + 1, 0, none⟩ (.slice P3.A1 z.sigs.length P3.c1)).setCell ⟨g + 1 + 1, 1, none⟩ (.slice P3.A2 z.units.length P3.c2)).setCell ⟨g + 1 + 1, 2, none⟩ (.bool z.begins)).setCell ⟨g + 1 + 1, 3, none⟩ (.bool z.ends)).setCell ⟨g + 1 + 1, 4, none⟩ (.int .i64 z.ms)).setCell ⟨g + 1 + 1, 5, none⟩ (.int .i64 z.timer)).drew (g + 1) 59 [.int .i64 y.1.most, .int .i64 y.1.credit, .int .i64 y.1.state, .int .i64 y.1.sq, .int .i64 y.1.peer, .int .i64 1, .int .i64 y.1.ms, .string d]) := Blk.drew hoq6_2OC
  have HBOR6 : Hid (Blk ((((((((((((((w5.setCell ⟨g + 1, 0, none⟩ (.int .i64 y.1.most)).setCell ⟨g + 1, 1, none⟩ (.int .i64 y.1.credit)).setCell ⟨g + 1, 2, none⟩ (.int .i64 y.1.state)).setCell ⟨g + 1, 3, none⟩ (.int .i64 y.1.sq)).setCell ⟨g + 1, 4, none⟩ (.int .i64 y.1.peer)).setCell ⟨g + 1, 5, none⟩ (.int .i64 1)).setCell ⟨g + 1, 6, none⟩ (.int .i64 y.1.ms)).setCell ⟨g + 1, 7, none⟩ (.string d)).setCell ⟨g + 1 + 1, 0, none⟩ (.slice P3.A1 z.sigs.length P3.c1)).setCell ⟨g + 1 + 1, 1, none⟩ (.slice P3.A2 z.units.length P3.c2)).setCell ⟨g + 1 + 1, 2, none⟩ (.bool z.begins)).setCell ⟨g + 1 + 1, 3, none⟩ (.bool z.ends)).setCell ⟨g + 1 + 1, 4, none⟩ (.int .i64 z.ms)).setCell ⟨g + 1 + 1, 5, none⟩ (.int .i64 z.timer)).drew (g + 1 + 1) 90 [.slice P3.A1 z.sigs.length P3.c1, .slice P3.A2 z.units.length P3.c2, .bool z.begins, .bool z.ends, .int .i64 z.ms, .int .i64 z.timer]) := Blk.drew hbq6_2
  have HBR6 : Hid (Blk ((((((((((((((w5.setCell ⟨g + 1, 0, none⟩ (.int .i64 y.1.most)).setCell ⟨g + 1, 1, none⟩ (.int .i64 y.1.credit)).setCell ⟨g + 1, 2, none⟩ (.int .i64 y.1.state)).setCell ⟨g + 1, 3, none⟩ (.int .i64 y.1.sq)).setCell ⟨g + 1, 4, none⟩ (.int .i64 y.1.peer)).setCell ⟨g + 1, 5, none⟩ (.int .i64 1)).setCell ⟨g + 1, 6, none⟩ (.int .i64 y.1.ms)).setCell ⟨g + 1, 7, none⟩ (.string d)).setCell ⟨g + 1 + 1, 0, none⟩ (.slice P3.A1 z.sigs.length P3.c1)).setCell ⟨g + 1 + 1, 1, none⟩ (.slice P3.A2 z.units.length P3.c2)).setCell ⟨g + 1 + 1, 2, none⟩ (.bool z.begins)).setCell ⟨g + 1 + 1, 3, none⟩ (.bool z.ends)).setCell ⟨g + 1 + 1, 4, none⟩ (.int .i64 z.ms)).setCell ⟨g + 1 + 1, 5, none⟩ (.int .i64 z.timer)).drew (g + 1 + 1 + 1) 90 [.slice P3.A1 z.sigs.length P3.c1, .slice P3.A2 z.units.length P3.c2, .bool z.begins, .bool z.ends, .int .i64 z.ms, .int .i64 z.timer]) := Blk.drew hoq6_2R
  have HR6 := Lib.hid (RIn.old hrq6_2 (Touch.refl _ ((((((((((((((w5.setCell ⟨g + 1, 0, none⟩ (.int .i64 y.1.most)).setCell ⟨g + 1, 1, none⟩ (.int .i64 y.1.credit)).setCell ⟨g + 1, 2, none⟩ (.int .i64 y.1.state)).setCell ⟨g + 1, 3, none⟩ (.int .i64 y.1.sq)).setCell ⟨g + 1, 4, none⟩ (.int .i64 y.1.peer)).setCell ⟨g + 1, 5, none⟩ (.int .i64 1)).setCell ⟨g + 1, 6, none⟩ (.int .i64 y.1.ms)).setCell ⟨g + 1, 7, none⟩ (.string d)).setCell ⟨g + 1 + 1, 0, none⟩ (.slice P3.A1 z.sigs.length P3.c1)).setCell ⟨g + 1 + 1, 1, none⟩ (.slice P3.A2 z.units.length P3.c2)).setCell ⟨g + 1 + 1, 2, none⟩ (.bool z.begins)).setCell ⟨g + 1 + 1, 3, none⟩ (.bool z.ends)).setCell ⟨g + 1 + 1, 4, none⟩ (.int .i64 z.ms)).setCell ⟨g + 1 + 1, 5, none⟩ (.int .i64 z.timer))).drew)
  have HT6 : Hid (Touch (OfAct K) w ((((((((((((((w5.setCell ⟨g + 1, 0, none⟩ (.int .i64 y.1.most)).setCell ⟨g + 1, 1, none⟩ (.int .i64 y.1.credit)).setCell ⟨g + 1, 2, none⟩ (.int .i64 y.1.state)).setCell ⟨g + 1, 3, none⟩ (.int .i64 y.1.sq)).setCell ⟨g + 1, 4, none⟩ (.int .i64 y.1.peer)).setCell ⟨g + 1, 5, none⟩ (.int .i64 1)).setCell ⟨g + 1, 6, none⟩ (.int .i64 y.1.ms)).setCell ⟨g + 1, 7, none⟩ (.string d)).setCell ⟨g + 1 + 1, 0, none⟩ (.slice P3.A1 z.sigs.length P3.c1)).setCell ⟨g + 1 + 1, 1, none⟩ (.slice P3.A2 z.units.length P3.c2)).setCell ⟨g + 1 + 1, 2, none⟩ (.bool z.begins)).setCell ⟨g + 1 + 1, 3, none⟩ (.bool z.ends)).setCell ⟨g + 1 + 1, 4, none⟩ (.int .i64 z.ms)).setCell ⟨g + 1 + 1, 5, none⟩ (.int .i64 z.timer)).drew) := Touch.drew hTq6_2
  clear HBC5 HBOC5 HBOR5 HBR5 HR5 HT5 htq6_1 hbq6_1 hrq6_1 hTq6_1 hoq6_1C hoq6_1OR hoq6_1R htq6_2 hbq6_2 hrq6_2 hTq6_2 hoq6_2C hoq6_2OC hoq6_2R
  generalize ((((((((((((((w5.setCell ⟨g + 1, 0, none⟩ (.int .i64 y.1.most)).setCell ⟨g + 1, 1, none⟩ (.int .i64 y.1.credit)).setCell ⟨g + 1, 2, none⟩ (.int .i64 y.1.state)).setCell ⟨g + 1, 3, none⟩ (.int .i64 y.1.sq)).setCell ⟨g + 1, 4, none⟩ (.int .i64 y.1.peer)).setCell ⟨g + 1, 5, none⟩ (.int .i64 1)).setCell ⟨g + 1, 6, none⟩ (.int .i64 y.1.ms)).setCell ⟨g + 1, 7, none⟩ (.string d)).setCell ⟨g + 1 + 1, 0, none⟩ (.slice P3.A1 z.sigs.length P3.c1)).setCell ⟨g + 1 + 1, 1, none⟩ (.slice P3.A2 z.units.length P3.c2)).setCell ⟨g + 1 + 1, 2, none⟩ (.bool z.begins)).setCell ⟨g + 1 + 1, 3, none⟩ (.bool z.ends)).setCell ⟨g + 1 + 1, 4, none⟩ (.int .i64 z.ms)).setCell ⟨g + 1 + 1, 5, none⟩ (.int .i64 z.timer)).drew = w6 at *
  have HAE : Hid (Cn.ask (s, Cn.r0) 3 d = ({ y.1 with cc := 1, data := d }, z)) := by unfold Hid Cn.ask; rw [if_neg (by decide), if_neg (by decide), if_pos rfl, if_neg H3.out, ← HZz.out, ← HYy.out]; rfl
  have HX : Hid (∀ e, e = .returned (.tuple #[.agg #[.int .i64 y.1.most, .int .i64 y.1.credit, .int .i64 y.1.state, .int .i64 y.1.sq, .int .i64 y.1.peer, .int .i64 1, .int .i64 y.1.ms, .string d], .agg #[.slice P3.A1 z.sigs.length P3.c1, .slice P3.A2 z.units.length P3.c2, .bool z.begins, .bool z.ends, .int .i64 z.ms, .int .i64 z.timer], .int .i64 0]) → RPost3 K (0 + 9) (Cn.ask (s, Cn.r0) 3 d) (0) w e w6) := fun e he => ⟨P3, he.trans (by (rw [HAE.out]; rfl)), by (refine ((HR6.out.less HL.out).wide (by omega)).eq ?_ ?_ <;> (rw [HAE.out])), HT6.out⟩
  have zOC0 : w6.cell? ⟨g + 1, 0, none⟩ = some (.int .i64 y.1.most) := HBOC6.out.cell 0
  have zOC1 : w6.cell? ⟨g + 1, 1, none⟩ = some (.int .i64 y.1.credit) := HBOC6.out.cell 1
  have zOC2 : w6.cell? ⟨g + 1, 2, none⟩ = some (.int .i64 y.1.state) := HBOC6.out.cell 2
  have zOC3 : w6.cell? ⟨g + 1, 3, none⟩ = some (.int .i64 y.1.sq) := HBOC6.out.cell 3
  have zOC4 : w6.cell? ⟨g + 1, 4, none⟩ = some (.int .i64 y.1.peer) := HBOC6.out.cell 4
  have zOC5 : w6.cell? ⟨g + 1, 5, none⟩ = some (.int .i64 1) := HBOC6.out.cell 5
  have zOC6 : w6.cell? ⟨g + 1, 6, none⟩ = some (.int .i64 y.1.ms) := HBOC6.out.cell 6
  have zOC7 : w6.cell? ⟨g + 1, 7, none⟩ = some (.string d) := HBOC6.out.cell 7
  have zOR0 : w6.cell? ⟨g + 1 + 1, 0, none⟩ = some (.slice P3.A1 z.sigs.length P3.c1) := HBOR6.out.cell 0
  have zOR1 : w6.cell? ⟨g + 1 + 1, 1, none⟩ = some (.slice P3.A2 z.units.length P3.c2) := HBOR6.out.cell 1
  have zOR2 : w6.cell? ⟨g + 1 + 1, 2, none⟩ = some (.bool z.begins) := HBOR6.out.cell 2
  have zOR3 : w6.cell? ⟨g + 1 + 1, 3, none⟩ = some (.bool z.ends) := HBOR6.out.cell 3
  have zOR4 : w6.cell? ⟨g + 1 + 1, 4, none⟩ = some (.int .i64 z.ms) := HBOR6.out.cell 4
  have zOR5 : w6.cell? ⟨g + 1 + 1, 5, none⟩ = some (.int .i64 z.timer) := HBOR6.out.cell 5
  go_wp2
  exact bodyPost_ret (v := _) (by simp [results, Try.results53, go_sem, zOC0, zOC1, zOC2, zOC3, zOC4, zOC5, zOC6, zOC7, zOR0, zOR1, zOR2, zOR3, zOR4, zOR5]) rfl (HX.out _ rfl)
end Go.Proofs.Ytkmegkjkbalooaa
