/-
  polliwogref14: Request, kind by kind.
-/
import Derived.Test.YtkmegkjkbalooaaRf14p
import Derived.Test.YtkmegkjkbalooaaCnC
import Derived.RegionTactic
import Derived.ChangeAlike
import Derived.Deep.RegionLaw
import Derived.Deep.QuietTactic
import Derived.BigQuiet
import Derived.StillTailTactics
import Derived.Deep.DeepCutAuto
import Derived.Deep.CutBlock
namespace Go.Proofs.Ytkmegkjkbalooaa
open Go.RowKit

set_option maxHeartbeats 4000000 in
set_option maxRecDepth 100000 in
theorem rrequest_1 {K : Nat → Prop} {w : World} {s : Cn.S} (hlim : ∀ k, K k → k < w.heap.size) (d : ByteArray) (hd : d.size ≤ maxLen) (hq : 0 ≤ s.sq ∧ s.sq ≤ 255) (hb : Cn.bigAsk 1 d = false) (hm : Ru.refMay s.state 1 = true) :
    Calls Try.prog 53 #[rcV s, .int .i64 1, .string d] w (RPost3 K 9 (Cn.ask (s, Cn.r0) 1 d) (0) w) := by
  unfold rcV
  unfold maxLen at hd
  have h := RIn.nil (w := w) hlim
  obtain ⟨w1, q0⟩ : ∃ x : World, x = ((((w.alloc (.cells #[.int .i64 s.most, .int .i64 s.credit, .int .i64 s.state, .int .i64 s.sq, .int .i64 s.peer, .int .i64 s.cc, .int .i64 s.ms, .string s.data] 59)).alloc (.cells #[.int .i64 0, .int .i64 0, .int .i64 0, .int .i64 0, .int .i64 0, .int .i64 0, .int .i64 0, .string { data := #[] }] 59)).alloc (.cells #[.slice none 0 0, .slice none 0 0, .bool false, .bool false, .int .i64 0, .int .i64 0] 90)).alloc (.cells #[.slice none 0 0, .slice none 0 0, .bool false, .bool false, .int .i64 0, .int .i64 0] 90)) := ⟨_, rfl⟩
  have q_w1 := Lib.hid q0
  clear q0
  have HF : Hid (Fresh w w1) := by rw [q_w1.out]; exact ((((Touch.refl _ w).alloc _).alloc _).alloc _).alloc _
  have HBC1 : Hid (Blk w1 (w.heap.size) 59 [.int .i64 s.most, .int .i64 s.credit, .int .i64 s.state, .int .i64 s.sq, .int .i64 s.peer, .int .i64 s.cc, .int .i64 s.ms, .string s.data]) := by
    rw [q_w1.out]
    have := (((Blk.new w 59 [.int .i64 s.most, .int .i64 s.credit, .int .i64 s.state, .int .i64 s.sq, .int .i64 s.peer, .int .i64 s.cc, .int .i64 s.ms, .string s.data]).alloc (.cells #[.int .i64 0, .int .i64 0, .int .i64 0, .int .i64 0, .int .i64 0, .int .i64 0, .int .i64 0, .string { data := #[] }] 59)).alloc (.cells #[.slice none 0 0, .slice none 0 0, .bool false, .bool false, .int .i64 0, .int .i64 0] 90)).alloc (.cells #[.slice none 0 0, .slice none 0 0, .bool false, .bool false, .int .i64 0, .int .i64 0] 90)
    exact this
  have HGC : Hid (Kept K w w1 (w.heap.size)) := by rw [q_w1.out]; exact .inr ⟨by omega, by simp; try omega⟩
  have HBOC1 : Hid (Blk w1 (w.heap.size + 1) 59 [.int .i64 0, .int .i64 0, .int .i64 0, .int .i64 0, .int .i64 0, .int .i64 0, .int .i64 0, .string { data := #[] }]) := by
    rw [q_w1.out]
    have := ((Blk.new (w.alloc (.cells #[.int .i64 s.most, .int .i64 s.credit, .int .i64 s.state, .int .i64 s.sq, .int .i64 s.peer, .int .i64 s.cc, .int .i64 s.ms, .string s.data] 59)) 59 [.int .i64 0, .int .i64 0, .int .i64 0, .int .i64 0, .int .i64 0, .int .i64 0, .int .i64 0, .string { data := #[] }]).alloc (.cells #[.slice none 0 0, .slice none 0 0, .bool false, .bool false, .int .i64 0, .int .i64 0] 90)).alloc (.cells #[.slice none 0 0, .slice none 0 0, .bool false, .bool false, .int .i64 0, .int .i64 0] 90)
    rwa [show (w.alloc (.cells #[.int .i64 s.most, .int .i64 s.credit, .int .i64 s.state, .int .i64 s.sq, .int .i64 s.peer, .int .i64 s.cc, .int .i64 s.ms, .string s.data] 59)).heap.size = w.heap.size + 1 by simp] at this
  have HGOC : Hid (Kept K w w1 (w.heap.size + 1)) := by rw [q_w1.out]; exact .inr ⟨by omega, by simp; try omega⟩
  have HBOR1 : Hid (Blk w1 (w.heap.size + 1 + 1) 90 [.slice none 0 0, .slice none 0 0, .bool false, .bool false, .int .i64 0, .int .i64 0]) := by
    rw [q_w1.out]
    have := (Blk.new ((w.alloc (.cells #[.int .i64 s.most, .int .i64 s.credit, .int .i64 s.state, .int .i64 s.sq, .int .i64 s.peer, .int .i64 s.cc, .int .i64 s.ms, .string s.data] 59)).alloc (.cells #[.int .i64 0, .int .i64 0, .int .i64 0, .int .i64 0, .int .i64 0, .int .i64 0, .int .i64 0, .string { data := #[] }] 59)) 90 [.slice none 0 0, .slice none 0 0, .bool false, .bool false, .int .i64 0, .int .i64 0]).alloc (.cells #[.slice none 0 0, .slice none 0 0, .bool false, .bool false, .int .i64 0, .int .i64 0] 90)
    rwa [show ((w.alloc (.cells #[.int .i64 s.most, .int .i64 s.credit, .int .i64 s.state, .int .i64 s.sq, .int .i64 s.peer, .int .i64 s.cc, .int .i64 s.ms, .string s.data] 59)).alloc (.cells #[.int .i64 0, .int .i64 0, .int .i64 0, .int .i64 0, .int .i64 0, .int .i64 0, .int .i64 0, .string { data := #[] }] 59)).heap.size = w.heap.size + 1 + 1 by simp] at this
  have HGOR : Hid (Kept K w w1 (w.heap.size + 1 + 1)) := by rw [q_w1.out]; exact .inr ⟨by omega, by simp; try omega⟩
  have HBR1 : Hid (Blk w1 (w.heap.size + 1 + 1 + 1) 90 [.slice none 0 0, .slice none 0 0, .bool false, .bool false, .int .i64 0, .int .i64 0]) := by
    rw [q_w1.out]
    have := Blk.new (((w.alloc (.cells #[.int .i64 s.most, .int .i64 s.credit, .int .i64 s.state, .int .i64 s.sq, .int .i64 s.peer, .int .i64 s.cc, .int .i64 s.ms, .string s.data] 59)).alloc (.cells #[.int .i64 0, .int .i64 0, .int .i64 0, .int .i64 0, .int .i64 0, .int .i64 0, .int .i64 0, .string { data := #[] }] 59)).alloc (.cells #[.slice none 0 0, .slice none 0 0, .bool false, .bool false, .int .i64 0, .int .i64 0] 90)) 90 [.slice none 0 0, .slice none 0 0, .bool false, .bool false, .int .i64 0, .int .i64 0]
    rwa [show (((w.alloc (.cells #[.int .i64 s.most, .int .i64 s.credit, .int .i64 s.state, .int .i64 s.sq, .int .i64 s.peer, .int .i64 s.cc, .int .i64 s.ms, .string s.data] 59)).alloc (.cells #[.int .i64 0, .int .i64 0, .int .i64 0, .int .i64 0, .int .i64 0, .int .i64 0, .int .i64 0, .string { data := #[] }] 59)).alloc (.cells #[.slice none 0 0, .slice none 0 0, .bool false, .bool false, .int .i64 0, .int .i64 0] 90)).heap.size = w.heap.size + 1 + 1 + 1 by simp] at this
  have HGR : Hid (Kept K w w1 (w.heap.size + 1 + 1 + 1)) := by rw [q_w1.out]; exact .inr ⟨by omega, by simp; try omega⟩
  have HL : Hid (∀ k, K k → Kept K w w1 k) := by rw [q_w1.out]; exact fun k e => .inl e
  have HLIM : Hid (∀ k, K k → k < w.heap.size) := h.lim
  have HR1 := Lib.hid (h.keep HF.out)
  have HT1 : Hid (Touch (OfAct K) w w1) := HF.out.mono (fun _ _ e => e.elim)
  clear h hlim HF
  go_enter Try.func53, Try.ntmps53
  go_upto_region 2 with (fail)
  rw [← q_w1.out]
  clear q_w1
  generalize Kept K w w1 = K1 at *
  generalize w.heap.size = g at *
  have h64 : decide (64 < (d.size : Int)) = false := by unfold Cn.bigAsk at hb; simpa using hb
  have HM := Lib.hid hm
  have HMAY := Lib.hid (refMay_any s.state 1 w1)
  have HQ := Lib.hid hq
  clear hb hm hq
  have xC0 : w1.cell? ⟨g, 0, none⟩ = some (.int .i64 s.most) := HBC1.out.cell 0
  have xC1 : w1.cell? ⟨g, 1, none⟩ = some (.int .i64 s.credit) := HBC1.out.cell 1
  have xC2 : w1.cell? ⟨g, 2, none⟩ = some (.int .i64 s.state) := HBC1.out.cell 2
  have xC3 : w1.cell? ⟨g, 3, none⟩ = some (.int .i64 s.sq) := HBC1.out.cell 3
  have xC4 : w1.cell? ⟨g, 4, none⟩ = some (.int .i64 s.peer) := HBC1.out.cell 4
  have xC5 : w1.cell? ⟨g, 5, none⟩ = some (.int .i64 s.cc) := HBC1.out.cell 5
  have xC6 : w1.cell? ⟨g, 6, none⟩ = some (.int .i64 s.ms) := HBC1.out.cell 6
  have xC7 : w1.cell? ⟨g, 7, none⟩ = some (.string s.data) := HBC1.out.cell 7
  go_wp2_with fail
  refine HMAY.out.mono ?_
  rintro e w2 ⟨rfl, rfl⟩
  rw [HM.out]
  simp only
  clear xC0 xC1 xC2 xC3 xC4 xC5 xC6 xC7
  have xC0 : w1.cell? ⟨g, 0, none⟩ = some (.int .i64 s.most) := HBC1.out.cell 0
  have xC1 : w1.cell? ⟨g, 1, none⟩ = some (.int .i64 s.credit) := HBC1.out.cell 1
  have xC2 : w1.cell? ⟨g, 2, none⟩ = some (.int .i64 s.state) := HBC1.out.cell 2
  have xC3 : w1.cell? ⟨g, 3, none⟩ = some (.int .i64 s.sq) := HBC1.out.cell 3
  have xC4 : w1.cell? ⟨g, 4, none⟩ = some (.int .i64 s.peer) := HBC1.out.cell 4
  have xC5 : w1.cell? ⟨g, 5, none⟩ = some (.int .i64 s.cc) := HBC1.out.cell 5
  have xC6 : w1.cell? ⟨g, 6, none⟩ = some (.int .i64 s.ms) := HBC1.out.cell 6
  have xC7 : w1.cell? ⟨g, 7, none⟩ = some (.string s.data) := HBC1.out.cell 7
  have xR0 : w1.cell? ⟨g + 1 + 1 + 1, 0, none⟩ = some (.slice none 0 0) := HBR1.out.cell 0
  have xR1 : w1.cell? ⟨g + 1 + 1 + 1, 1, none⟩ = some (.slice none 0 0) := HBR1.out.cell 1
  have xR2 : w1.cell? ⟨g + 1 + 1 + 1, 2, none⟩ = some (.bool false) := HBR1.out.cell 2
  have xR3 : w1.cell? ⟨g + 1 + 1 + 1, 3, none⟩ = some (.bool false) := HBR1.out.cell 3
  have xR4 : w1.cell? ⟨g + 1 + 1 + 1, 4, none⟩ = some (.int .i64 0) := HBR1.out.cell 4
  have xR5 : w1.cell? ⟨g + 1 + 1 + 1, 5, none⟩ = some (.int .i64 0) := HBR1.out.cell 5
  go_wp2_with fail
  refine (rbegin_any (s := s) (r := Cn.r0) HR1.out (by omega) HQ.out 1 2 d rfl).mono ?_
  rintro e w2 ⟨P2, rfl, hr2, ht2⟩
  simp only [rcV, rrV]
  have HBC2 := Lib.hid (ht2.keptB HBC1.out HGC.out)
  have HBOC2 := Lib.hid (ht2.keptB HBOC1.out HGOC.out)
  have HBOR2 := Lib.hid (ht2.keptB HBOR1.out HGOR.out)
  have HBR2 := Lib.hid (ht2.keptB HBR1.out HGR.out)
  have HR2 := Lib.hid hr2
  have HT2 : Hid (Touch (OfAct K) w w2) := HT1.out.trans (ht2.loose HL.out) (fun _ _ e => e)
  clear xC0 xC1 xC2 xC3 xC4 xC5 xC6 xC7 xR0 xR1 xR2 xR3 xR4 xR5
  clear hr2 ht2 HBC1 HBOC1 HBOR1 HBR1 HR1 HT1
  obtain ⟨y, hy⟩ : ∃ q_, Cn.begin_ (s, Cn.r0) 2 d = q_ := ⟨_, rfl⟩
  have HYy := Lib.hid hy
  rw [hy]
  rw [hy] at HR2
  clear hy
  have xC0 : w2.cell? ⟨g, 0, none⟩ = some (.int .i64 s.most) := HBC2.out.cell 0
  have fC0 := HBC2.out.frozen 0
  have xC1 : w2.cell? ⟨g, 1, none⟩ = some (.int .i64 s.credit) := HBC2.out.cell 1
  have fC1 := HBC2.out.frozen 1
  have xC2 : w2.cell? ⟨g, 2, none⟩ = some (.int .i64 s.state) := HBC2.out.cell 2
  have fC2 := HBC2.out.frozen 2
  have xC3 : w2.cell? ⟨g, 3, none⟩ = some (.int .i64 s.sq) := HBC2.out.cell 3
  have fC3 := HBC2.out.frozen 3
  have xC4 : w2.cell? ⟨g, 4, none⟩ = some (.int .i64 s.peer) := HBC2.out.cell 4
  have fC4 := HBC2.out.frozen 4
  have xC5 : w2.cell? ⟨g, 5, none⟩ = some (.int .i64 s.cc) := HBC2.out.cell 5
  have fC5 := HBC2.out.frozen 5
  have xC6 : w2.cell? ⟨g, 6, none⟩ = some (.int .i64 s.ms) := HBC2.out.cell 6
  have fC6 := HBC2.out.frozen 6
  have xC7 : w2.cell? ⟨g, 7, none⟩ = some (.string s.data) := HBC2.out.cell 7
  have fC7 := HBC2.out.frozen 7
  have xR0 : w2.cell? ⟨g + 1 + 1 + 1, 0, none⟩ = some (.slice none 0 0) := HBR2.out.cell 0
  have fR0 := HBR2.out.frozen 0
  have xR1 : w2.cell? ⟨g + 1 + 1 + 1, 1, none⟩ = some (.slice none 0 0) := HBR2.out.cell 1
  have fR1 := HBR2.out.frozen 1
  have xR2 : w2.cell? ⟨g + 1 + 1 + 1, 2, none⟩ = some (.bool false) := HBR2.out.cell 2
  have fR2 := HBR2.out.frozen 2
  have xR3 : w2.cell? ⟨g + 1 + 1 + 1, 3, none⟩ = some (.bool false) := HBR2.out.cell 3
  have fR3 := HBR2.out.frozen 3
  have xR4 : w2.cell? ⟨g + 1 + 1 + 1, 4, none⟩ = some (.int .i64 0) := HBR2.out.cell 4
  have fR4 := HBR2.out.frozen 4
  have xR5 : w2.cell? ⟨g + 1 + 1 + 1, 5, none⟩ = some (.int .i64 0) := HBR2.out.cell 5
  have fR5 := HBR2.out.frozen 5
  have HAE : Hid (Cn.ask (s, Cn.r0) 1 d = y) := by rw [← HYy.out]; rfl
  go_wp2
  have htq3_1 : Touch (· = g) w2 ((((((((w2.setCell ⟨g, 0, none⟩ (.int .i64 y.1.most)).setCell ⟨g, 1, none⟩ (.int .i64 y.1.credit)).setCell ⟨g, 2, none⟩ (.int .i64 y.1.state)).setCell ⟨g, 3, none⟩ (.int .i64 y.1.sq)).setCell ⟨g, 4, none⟩ (.int .i64 y.1.peer)).setCell ⟨g, 5, none⟩ (.int .i64 y.1.cc)).setCell ⟨g, 6, none⟩ (.int .i64 y.1.ms)).setCell ⟨g, 7, none⟩ (.string y.1.data)) := (((((((((Touch.refl _ w2).st (S := (· = g)) (u := .int .i64 y.1.most) (by exact rfl)).st (S := (· = g)) (u := .int .i64 y.1.credit) (by exact rfl)).st (S := (· = g)) (u := .int .i64 y.1.state) (by exact rfl)).st (S := (· = g)) (u := .int .i64 y.1.sq) (by exact rfl)).st (S := (· = g)) (u := .int .i64 y.1.peer) (by exact rfl)).st (S := (· = g)) (u := .int .i64 y.1.cc) (by exact rfl)).st (S := (· = g)) (u := .int .i64 y.1.ms) (by exact rfl)).st (S := (· = g)) (u := .string y.1.data) (by exact rfl))
  have hbq3_1 : Blk ((((((((w2.setCell ⟨g, 0, none⟩ (.int .i64 y.1.most)).setCell ⟨g, 1, none⟩ (.int .i64 y.1.credit)).setCell ⟨g, 2, none⟩ (.int .i64 y.1.state)).setCell ⟨g, 3, none⟩ (.int .i64 y.1.sq)).setCell ⟨g, 4, none⟩ (.int .i64 y.1.peer)).setCell ⟨g, 5, none⟩ (.int .i64 y.1.cc)).setCell ⟨g, 6, none⟩ (.int .i64 y.1.ms)).setCell ⟨g, 7, none⟩ (.string y.1.data)) (g) 59 [.int .i64 y.1.most, .int .i64 y.1.credit, .int .i64 y.1.state, .int .i64 y.1.sq, .int .i64 y.1.peer, .int .i64 y.1.cc, .int .i64 y.1.ms, .string y.1.data] := ((((((((HBC2.out.set 0 (.int .i64 y.1.most)).set 1 (.int .i64 y.1.credit)).set 2 (.int .i64 y.1.state)).set 3 (.int .i64 y.1.sq)).set 4 (.int .i64 y.1.peer)).set 5 (.int .i64 y.1.cc)).set 6 (.int .i64 y.1.ms)).set 7 (.string y.1.data))
  have hoq3_1OC := htq3_1.blk HBOC2.out (by intro e; have e : g + 1 = g := e; omega)
  have hoq3_1OR := htq3_1.blk HBOR2.out (by intro e; have e : g + 1 + 1 = g := e; omega)
  have hoq3_1R := htq3_1.blk HBR2.out (by intro e; have e : g + 1 + 1 + 1 = g := e; omega)
  have hrq3_1 := HR2.out.touch htq3_1 (fun k e => by have e : k = g := e; rw [e]; exact HGC.out)
  have hTq3_1 : Touch (OfAct K) w ((((((((w2.setCell ⟨g, 0, none⟩ (.int .i64 y.1.most)).setCell ⟨g, 1, none⟩ (.int .i64 y.1.credit)).setCell ⟨g, 2, none⟩ (.int .i64 y.1.state)).setCell ⟨g, 3, none⟩ (.int .i64 y.1.sq)).setCell ⟨g, 4, none⟩ (.int .i64 y.1.peer)).setCell ⟨g, 5, none⟩ (.int .i64 y.1.cc)).setCell ⟨g, 6, none⟩ (.int .i64 y.1.ms)).setCell ⟨g, 7, none⟩ (.string y.1.data)) := HT2.out.trans htq3_1 (fun k _ e => by have e : k = g := e; intro hk; have := HLIM.out k hk; omega)
  obtain ⟨w3, q0⟩ : ∃ x : World, x = ((((((((((((((w2.setCell ⟨g, 0, none⟩ (.int .i64 y.1.most)).setCell ⟨g, 1, none⟩ (.int .i64 y.1.credit)).setCell ⟨g, 2, none⟩ (.int .i64 y.1.state)).setCell ⟨g, 3, none⟩ (.int .i64 y.1.sq)).setCell ⟨g, 4, none⟩ (.int .i64 y.1.peer)).setCell ⟨g, 5, none⟩ (.int .i64 y.1.cc)).setCell ⟨g, 6, none⟩ (.int .i64 y.1.ms)).setCell ⟨g, 7, none⟩ (.string y.1.data)).setCell ⟨g + 1 + 1 + 1, 0, none⟩ (.slice P2.A1 y.2.sigs.length P2.c1)).setCell ⟨g + 1 + 1 + 1, 1, none⟩ (.slice P2.A2 y.2.units.length P2.c2)).setCell ⟨g + 1 + 1 + 1, 2, none⟩ (.bool y.2.begins)).setCell ⟨g + 1 + 1 + 1, 3, none⟩ (.bool y.2.ends)).setCell ⟨g + 1 + 1 + 1, 4, none⟩ (.int .i64 y.2.ms)).setCell ⟨g + 1 + 1 + 1, 5, none⟩ (.int .i64 y.2.timer)) := ⟨_, rfl⟩
  have q_w3 := Lib.hid q0
  clear q0
  have htq3_2 : Touch (· = g + 1 + 1 + 1) ((((((((w2.setCell ⟨g, 0, none⟩ (.int .i64 y.1.most)).setCell ⟨g, 1, none⟩ (.int .i64 y.1.credit)).setCell ⟨g, 2, none⟩ (.int .i64 y.1.state)).setCell ⟨g, 3, none⟩ (.int .i64 y.1.sq)).setCell ⟨g, 4, none⟩ (.int .i64 y.1.peer)).setCell ⟨g, 5, none⟩ (.int .i64 y.1.cc)).setCell ⟨g, 6, none⟩ (.int .i64 y.1.ms)).setCell ⟨g, 7, none⟩ (.string y.1.data)) w3 := by rw [q_w3.out]; exact (((((((Touch.refl _ ((((((((w2.setCell ⟨g, 0, none⟩ (.int .i64 y.1.most)).setCell ⟨g, 1, none⟩ (.int .i64 y.1.credit)).setCell ⟨g, 2, none⟩ (.int .i64 y.1.state)).setCell ⟨g, 3, none⟩ (.int .i64 y.1.sq)).setCell ⟨g, 4, none⟩ (.int .i64 y.1.peer)).setCell ⟨g, 5, none⟩ (.int .i64 y.1.cc)).setCell ⟨g, 6, none⟩ (.int .i64 y.1.ms)).setCell ⟨g, 7, none⟩ (.string y.1.data))).st (S := (· = g + 1 + 1 + 1)) (u := .slice P2.A1 y.2.sigs.length P2.c1) (by exact rfl)).st (S := (· = g + 1 + 1 + 1)) (u := .slice P2.A2 y.2.units.length P2.c2) (by exact rfl)).st (S := (· = g + 1 + 1 + 1)) (u := .bool y.2.begins) (by exact rfl)).st (S := (· = g + 1 + 1 + 1)) (u := .bool y.2.ends) (by exact rfl)).st (S := (· = g + 1 + 1 + 1)) (u := .int .i64 y.2.ms) (by exact rfl)).st (S := (· = g + 1 + 1 + 1)) (u := .int .i64 y.2.timer) (by exact rfl))
  have hbq3_2 : Blk w3 (g + 1 + 1 + 1) 90 [.slice P2.A1 y.2.sigs.length P2.c1, .slice P2.A2 y.2.units.length P2.c2, .bool y.2.begins, .bool y.2.ends, .int .i64 y.2.ms, .int .i64 y.2.timer] := by rw [q_w3.out]; exact ((((((hoq3_1R.set 0 (.slice P2.A1 y.2.sigs.length P2.c1)).set 1 (.slice P2.A2 y.2.units.length P2.c2)).set 2 (.bool y.2.begins)).set 3 (.bool y.2.ends)).set 4 (.int .i64 y.2.ms)).set 5 (.int .i64 y.2.timer))
  have hoq3_2C := htq3_2.blk hbq3_1 (by intro e; have e : g = g + 1 + 1 + 1 := e; omega)
  have hoq3_2OC := htq3_2.blk hoq3_1OC (by intro e; have e : g + 1 = g + 1 + 1 + 1 := e; omega)
  have hoq3_2OR := htq3_2.blk hoq3_1OR (by intro e; have e : g + 1 + 1 = g + 1 + 1 + 1 := e; omega)
  have hrq3_2 := hrq3_1.touch htq3_2 (fun k e => by have e : k = g + 1 + 1 + 1 := e; rw [e]; exact HGR.out)
  have hTq3_2 : Touch (OfAct K) w w3 := hTq3_1.trans htq3_2 (fun k _ e => by have e : k = g + 1 + 1 + 1 := e; intro hk; have := HLIM.out k hk; omega)
  clear xC0 fC0 xC1 fC1 xC2 fC2 xC3 fC3 xC4 fC4 xC5 fC5 xC6 fC6 xC7 fC7 xR0 fR0 xR1 fR1 xR2 fR2 xR3 fR3 xR4 fR4 xR5 fR5
  have HBC3 : Hid (Blk w3 (g) 59 [.int .i64 y.1.most, .int .i64 y.1.credit, .int .i64 y.1.state, .int .i64 y.1.sq, .int .i64 y.1.peer, .int .i64 y.1.cc, .int .i64 y.1.ms, .string y.1.data]) := hoq3_2C
  have HBOC3 : Hid (Blk w3 (g + 1) 59 [.int .i64 0, .int .i64 0, .int .i64 0, .int .i64 0, .int .i64 0, .int .i64 0, .int .i64 0, .string { data := #[] }]) := hoq3_2OC
  have HBOR3 : Hid (Blk w3 (g + 1 + 1) 90 [.slice none 0 0, .slice none 0 0, .bool false, .bool false, .int .i64 0, .int .i64 0]) := hoq3_2OR
  have HBR3 : Hid (Blk w3 (g + 1 + 1 + 1) 90 [.slice P2.A1 y.2.sigs.length P2.c1, .slice P2.A2 y.2.units.length P2.c2, .bool y.2.begins, .bool y.2.ends, .int .i64 y.2.ms, .int .i64 y.2.timer]) := hbq3_2
  have HR3 := Lib.hid hrq3_2
  have HT3 : Hid (Touch (OfAct K) w w3) := hTq3_2
  clear HBC2 HBOC2 HBOR2 HBR2 HR2 HT2 htq3_1 hbq3_1 hrq3_1 hTq3_1 hoq3_1OC hoq3_1OR hoq3_1R htq3_2 hbq3_2 hrq3_2 hTq3_2 hoq3_2C hoq3_2OC hoq3_2OR
  rw [← q_w3.out]
  clear q_w3
  have xC0 : w3.cell? ⟨g, 0, none⟩ = some (.int .i64 y.1.most) := HBC3.out.cell 0
  have xC1 : w3.cell? ⟨g, 1, none⟩ = some (.int .i64 y.1.credit) := HBC3.out.cell 1
  have xC2 : w3.cell? ⟨g, 2, none⟩ = some (.int .i64 y.1.state) := HBC3.out.cell 2
  have xC3 : w3.cell? ⟨g, 3, none⟩ = some (.int .i64 y.1.sq) := HBC3.out.cell 3
  have xC4 : w3.cell? ⟨g, 4, none⟩ = some (.int .i64 y.1.peer) := HBC3.out.cell 4
  have xC5 : w3.cell? ⟨g, 5, none⟩ = some (.int .i64 y.1.cc) := HBC3.out.cell 5
  have xC6 : w3.cell? ⟨g, 6, none⟩ = some (.int .i64 y.1.ms) := HBC3.out.cell 6
  have xC7 : w3.cell? ⟨g, 7, none⟩ = some (.string y.1.data) := HBC3.out.cell 7
  have xR0 : w3.cell? ⟨g + 1 + 1 + 1, 0, none⟩ = some (.slice P2.A1 y.2.sigs.length P2.c1) := HBR3.out.cell 0
  have xR1 : w3.cell? ⟨g + 1 + 1 + 1, 1, none⟩ = some (.slice P2.A2 y.2.units.length P2.c2) := HBR3.out.cell 1
  have xR2 : w3.cell? ⟨g + 1 + 1 + 1, 2, none⟩ = some (.bool y.2.begins) := HBR3.out.cell 2
  have xR3 : w3.cell? ⟨g + 1 + 1 + 1, 3, none⟩ = some (.bool y.2.ends) := HBR3.out.cell 3
  have xR4 : w3.cell? ⟨g + 1 + 1 + 1, 4, none⟩ = some (.int .i64 y.2.ms) := HBR3.out.cell 4
  have xR5 : w3.cell? ⟨g + 1 + 1 + 1, 5, none⟩ = some (.int .i64 y.2.timer) := HBR3.out.cell 5
  have xOC0 : w3.cell? ⟨g + 1, 0, none⟩ = some (.int .i64 0) := HBOC3.out.cell 0
  have fOC0 := HBOC3.out.frozen 0
  have xOC1 : w3.cell? ⟨g + 1, 1, none⟩ = some (.int .i64 0) := HBOC3.out.cell 1
  have fOC1 := HBOC3.out.frozen 1
  have xOC2 : w3.cell? ⟨g + 1, 2, none⟩ = some (.int .i64 0) := HBOC3.out.cell 2
  have fOC2 := HBOC3.out.frozen 2
  have xOC3 : w3.cell? ⟨g + 1, 3, none⟩ = some (.int .i64 0) := HBOC3.out.cell 3
  have fOC3 := HBOC3.out.frozen 3
  have xOC4 : w3.cell? ⟨g + 1, 4, none⟩ = some (.int .i64 0) := HBOC3.out.cell 4
  have fOC4 := HBOC3.out.frozen 4
  have xOC5 : w3.cell? ⟨g + 1, 5, none⟩ = some (.int .i64 0) := HBOC3.out.cell 5
  have fOC5 := HBOC3.out.frozen 5
  have xOC6 : w3.cell? ⟨g + 1, 6, none⟩ = some (.int .i64 0) := HBOC3.out.cell 6
  have fOC6 := HBOC3.out.frozen 6
  have xOC7 : w3.cell? ⟨g + 1, 7, none⟩ = some (.string { data := #[] }) := HBOC3.out.cell 7
  have fOC7 := HBOC3.out.frozen 7
  have xOR0 : w3.cell? ⟨g + 1 + 1, 0, none⟩ = some (.slice none 0 0) := HBOR3.out.cell 0
  have fOR0 := HBOR3.out.frozen 0
  have xOR1 : w3.cell? ⟨g + 1 + 1, 1, none⟩ = some (.slice none 0 0) := HBOR3.out.cell 1
  have fOR1 := HBOR3.out.frozen 1
  have xOR2 : w3.cell? ⟨g + 1 + 1, 2, none⟩ = some (.bool false) := HBOR3.out.cell 2
  have fOR2 := HBOR3.out.frozen 2
  have xOR3 : w3.cell? ⟨g + 1 + 1, 3, none⟩ = some (.bool false) := HBOR3.out.cell 3
  have fOR3 := HBOR3.out.frozen 3
  have xOR4 : w3.cell? ⟨g + 1 + 1, 4, none⟩ = some (.int .i64 0) := HBOR3.out.cell 4
  have fOR4 := HBOR3.out.frozen 4
  have xOR5 : w3.cell? ⟨g + 1 + 1, 5, none⟩ = some (.int .i64 0) := HBOR3.out.cell 5
  have fOR5 := HBOR3.out.frozen 5
  go_region
  have htq4_1 : Touch (· = g + 1) w3 ((((((((w3.setCell ⟨g + 1, 0, none⟩ (.int .i64 y.1.most)).setCell ⟨g + 1, 1, none⟩ (.int .i64 y.1.credit)).setCell ⟨g + 1, 2, none⟩ (.int .i64 y.1.state)).setCell ⟨g + 1, 3, none⟩ (.int .i64 y.1.sq)).setCell ⟨g + 1, 4, none⟩ (.int .i64 y.1.peer)).setCell ⟨g + 1, 5, none⟩ (.int .i64 y.1.cc)).setCell ⟨g + 1, 6, none⟩ (.int .i64 y.1.ms)).setCell ⟨g + 1, 7, none⟩ (.string y.1.data)) := (((((((((Touch.refl _ w3).st (S := (· = g + 1)) (u := .int .i64 y.1.most) (by exact rfl)).st (S := (· = g + 1)) (u := .int .i64 y.1.credit) (by exact rfl)).st (S := (· = g + 1)) (u := .int .i64 y.1.state) (by exact rfl)).st (S := (· = g + 1)) (u := .int .i64 y.1.sq) (by exact rfl)).st (S := (· = g + 1)) (u := .int .i64 y.1.peer) (by exact rfl)).st (S := (· = g + 1)) (u := .int .i64 y.1.cc) (by exact rfl)).st (S := (· = g + 1)) (u := .int .i64 y.1.ms) (by exact rfl)).st (S := (· = g + 1)) (u := .string y.1.data) (by exact rfl))
  have hbq4_1 : Blk ((((((((w3.setCell ⟨g + 1, 0, none⟩ (.int .i64 y.1.most)).setCell ⟨g + 1, 1, none⟩ (.int .i64 y.1.credit)).setCell ⟨g + 1, 2, none⟩ (.int .i64 y.1.state)).setCell ⟨g + 1, 3, none⟩ (.int .i64 y.1.sq)).setCell ⟨g + 1, 4, none⟩ (.int .i64 y.1.peer)).setCell ⟨g + 1, 5, none⟩ (.int .i64 y.1.cc)).setCell ⟨g + 1, 6, none⟩ (.int .i64 y.1.ms)).setCell ⟨g + 1, 7, none⟩ (.string y.1.data)) (g + 1) 59 [.int .i64 y.1.most, .int .i64 y.1.credit, .int .i64 y.1.state, .int .i64 y.1.sq, .int .i64 y.1.peer, .int .i64 y.1.cc, .int .i64 y.1.ms, .string y.1.data] := ((((((((HBOC3.out.set 0 (.int .i64 y.1.most)).set 1 (.int .i64 y.1.credit)).set 2 (.int .i64 y.1.state)).set 3 (.int .i64 y.1.sq)).set 4 (.int .i64 y.1.peer)).set 5 (.int .i64 y.1.cc)).set 6 (.int .i64 y.1.ms)).set 7 (.string y.1.data))
  have hoq4_1C := htq4_1.blk HBC3.out (by intro e; have e : g = g + 1 := e; omega)
  have hoq4_1OR := htq4_1.blk HBOR3.out (by intro e; have e : g + 1 + 1 = g + 1 := e; omega)
  have hoq4_1R := htq4_1.blk HBR3.out (by intro e; have e : g + 1 + 1 + 1 = g + 1 := e; omega)
  have hrq4_1 := HR3.out.touch htq4_1 (fun k e => by have e : k = g + 1 := e; rw [e]; exact HGOC.out)
  have hTq4_1 : Touch (OfAct K) w ((((((((w3.setCell ⟨g + 1, 0, none⟩ (.int .i64 y.1.most)).setCell ⟨g + 1, 1, none⟩ (.int .i64 y.1.credit)).setCell ⟨g + 1, 2, none⟩ (.int .i64 y.1.state)).setCell ⟨g + 1, 3, none⟩ (.int .i64 y.1.sq)).setCell ⟨g + 1, 4, none⟩ (.int .i64 y.1.peer)).setCell ⟨g + 1, 5, none⟩ (.int .i64 y.1.cc)).setCell ⟨g + 1, 6, none⟩ (.int .i64 y.1.ms)).setCell ⟨g + 1, 7, none⟩ (.string y.1.data)) := HT3.out.trans htq4_1 (fun k _ e => by have e : k = g + 1 := e; intro hk; have := HLIM.out k hk; omega)
  have htq4_2 : Touch (· = g + 1 + 1) ((((((((w3.setCell ⟨g + 1, 0, none⟩ (.int .i64 y.1.most)).setCell ⟨g + 1, 1, none⟩ (.int .i64 y.1.credit)).setCell ⟨g + 1, 2, none⟩ (.int .i64 y.1.state)).setCell ⟨g + 1, 3, none⟩ (.int .i64 y.1.sq)).setCell ⟨g + 1, 4, none⟩ (.int .i64 y.1.peer)).setCell ⟨g + 1, 5, none⟩ (.int .i64 y.1.cc)).setCell ⟨g + 1, 6, none⟩ (.int .i64 y.1.ms)).setCell ⟨g + 1, 7, none⟩ (.string y.1.data)) ((((((((((((((w3.setCell ⟨g + 1, 0, none⟩ (.int .i64 y.1.most)).setCell ⟨g + 1, 1, none⟩ (.int .i64 y.1.credit)).setCell ⟨g + 1, 2, none⟩ (.int .i64 y.1.state)).setCell ⟨g + 1, 3, none⟩ (.int .i64 y.1.sq)).setCell ⟨g + 1, 4, none⟩ (.int .i64 y.1.peer)).setCell ⟨g + 1, 5, none⟩ (.int .i64 y.1.cc)).setCell ⟨g + 1, 6, none⟩ (.int .i64 y.1.ms)).setCell ⟨g + 1, 7, none⟩ (.string y.1.data)).setCell ⟨g + 1 + 1, 0, none⟩ (.slice P2.A1 y.2.sigs.length P2.c1)).setCell ⟨g + 1 + 1, 1, none⟩ (.slice P2.A2 y.2.units.length P2.c2)).setCell ⟨g + 1 + 1, 2, none⟩ (.bool y.2.begins)).setCell ⟨g + 1 + 1, 3, none⟩ (.bool y.2.ends)).setCell ⟨g + 1 + 1, 4, none⟩ (.int .i64 y.2.ms)).setCell ⟨g + 1 + 1, 5, none⟩ (.int .i64 y.2.timer)) := (((((((Touch.refl _ ((((((((w3.setCell ⟨g + 1, 0, none⟩ (.int .i64 y.1.most)).setCell ⟨g + 1, 1, none⟩ (.int .i64 y.1.credit)).setCell ⟨g + 1, 2, none⟩ (.int .i64 y.1.state)).setCell ⟨g + 1, 3, none⟩ (.int .i64 y.1.sq)).setCell ⟨g + 1, 4, none⟩ (.int .i64 y.1.peer)).setCell ⟨g + 1, 5, none⟩ (.int .i64 y.1.cc)).setCell ⟨g + 1, 6, none⟩ (.int .i64 y.1.ms)).setCell ⟨g + 1, 7, none⟩ (.string y.1.data))).st (S := (· = g + 1 + 1)) (u := .slice P2.A1 y.2.sigs.length P2.c1) (by exact rfl)).st (S := (· = g + 1 + 1)) (u := .slice P2.A2 y.2.units.length P2.c2) (by exact rfl)).st (S := (· = g + 1 + 1)) (u := .bool y.2.begins) (by exact rfl)).st (S := (· = g + 1 + 1)) (u := .bool y.2.ends) (by exact rfl)).st (S := (· = g + 1 + 1)) (u := .int .i64 y.2.ms) (by exact rfl)).st (S := (· = g + 1 + 1)) (u := .int .i64 y.2.timer) (by exact rfl))
  have hbq4_2 : Blk ((((((((((((((w3.setCell ⟨g + 1, 0, none⟩ (.int .i64 y.1.most)).setCell ⟨g + 1, 1, none⟩ (.int .i64 y.1.credit)).setCell ⟨g + 1, 2, none⟩ (.int .i64 y.1.state)).setCell ⟨g + 1, 3, none⟩ (.int .i64 y.1.sq)).setCell ⟨g + 1, 4, none⟩ (.int .i64 y.1.peer)).setCell ⟨g + 1, 5, none⟩ (.int .i64 y.1.cc)).setCell ⟨g + 1, 6, none⟩ (.int .i64 y.1.ms)).setCell ⟨g + 1, 7, none⟩ (.string y.1.data)).setCell ⟨g + 1 + 1, 0, none⟩ (.slice P2.A1 y.2.sigs.length P2.c1)).setCell ⟨g + 1 + 1, 1, none⟩ (.slice P2.A2 y.2.units.length P2.c2)).setCell ⟨g + 1 + 1, 2, none⟩ (.bool y.2.begins)).setCell ⟨g + 1 + 1, 3, none⟩ (.bool y.2.ends)).setCell ⟨g + 1 + 1, 4, none⟩ (.int .i64 y.2.ms)).setCell ⟨g + 1 + 1, 5, none⟩ (.int .i64 y.2.timer)) (g + 1 + 1) 90 [.slice P2.A1 y.2.sigs.length P2.c1, .slice P2.A2 y.2.units.length P2.c2, .bool y.2.begins, .bool y.2.ends, .int .i64 y.2.ms, .int .i64 y.2.timer] := ((((((hoq4_1OR.set 0 (.slice P2.A1 y.2.sigs.length P2.c1)).set 1 (.slice P2.A2 y.2.units.length P2.c2)).set 2 (.bool y.2.begins)).set 3 (.bool y.2.ends)).set 4 (.int .i64 y.2.ms)).set 5 (.int .i64 y.2.timer))
  have hoq4_2C := htq4_2.blk hoq4_1C (by intro e; have e : g = g + 1 + 1 := e; omega)
  have hoq4_2OC := htq4_2.blk hbq4_1 (by intro e; have e : g + 1 = g + 1 + 1 := e; omega)
  have hoq4_2R := htq4_2.blk hoq4_1R (by intro e; have e : g + 1 + 1 + 1 = g + 1 + 1 := e; omega)
  have hrq4_2 := hrq4_1.touch htq4_2 (fun k e => by have e : k = g + 1 + 1 := e; rw [e]; exact HGOR.out)
  have hTq4_2 : Touch (OfAct K) w ((((((((((((((w3.setCell ⟨g + 1, 0, none⟩ (.int .i64 y.1.most)).setCell ⟨g + 1, 1, none⟩ (.int .i64 y.1.credit)).setCell ⟨g + 1, 2, none⟩ (.int .i64 y.1.state)).setCell ⟨g + 1, 3, none⟩ (.int .i64 y.1.sq)).setCell ⟨g + 1, 4, none⟩ (.int .i64 y.1.peer)).setCell ⟨g + 1, 5, none⟩ (.int .i64 y.1.cc)).setCell ⟨g + 1, 6, none⟩ (.int .i64 y.1.ms)).setCell ⟨g + 1, 7, none⟩ (.string y.1.data)).setCell ⟨g + 1 + 1, 0, none⟩ (.slice P2.A1 y.2.sigs.length P2.c1)).setCell ⟨g + 1 + 1, 1, none⟩ (.slice P2.A2 y.2.units.length P2.c2)).setCell ⟨g + 1 + 1, 2, none⟩ (.bool y.2.begins)).setCell ⟨g + 1 + 1, 3, none⟩ (.bool y.2.ends)).setCell ⟨g + 1 + 1, 4, none⟩ (.int .i64 y.2.ms)).setCell ⟨g + 1 + 1, 5, none⟩ (.int .i64 y.2.timer)) := hTq4_1.trans htq4_2 (fun k _ e => by have e : k = g + 1 + 1 := e; intro hk; have := HLIM.out k hk; omega)
  clear xC0 xC1 xC2 xC3 xC4 xC5 xC6 xC7 xR0 xR1 xR2 xR3 xR4 xR5 xOC0 fOC0 xOC1 fOC1 xOC2 fOC2 xOC3 fOC3 xOC4 fOC4 xOC5 fOC5 xOC6 fOC6 xOC7 fOC7 xOR0 fOR0 xOR1 fOR1 xOR2 fOR2 xOR3 fOR3 xOR4 fOR4 xOR5 fOR5
  have HBC4 : Hid (Blk ((((((((((((((w3.setCell ⟨g + 1, 0, none⟩ (.int .i64 y.1.most)).setCell ⟨g + 1, 1, none⟩ (.int .i64 y.1.credit)).setCell ⟨g + 1, 2, none⟩ (.int .i64 y.1.state)).setCell ⟨g + 1, 3, none⟩ (.int .i64 y.1.sq)).setCell ⟨g + 1, 4, none⟩ (.int .i64 y.1.peer)).setCell ⟨g + 1, 5, none⟩ (.int .i64 y.1.cc)).setCell ⟨g + 1, 6, none⟩ (.int .i64 y.1.ms)).setCell ⟨g + 1, 7, none⟩ (.string y.1.data)).setCell ⟨g + 1 + 1, 0, none⟩ (.slice P2.A1 y.2.sigs.length P2.c1)).setCell ⟨g + 1 + 1, 1, none⟩ (.slice P2.A2 y.2.units.length P2.c2)).setCell ⟨g + 1 + 1, 2, none⟩ (.bool y.2.begins)).setCell ⟨g + 1 + 1, 3, none⟩ (.bool y.2.ends)).setCell ⟨g + 1 + 1, 4, none⟩ (.int .i64 y.2.ms)).setCell ⟨g + 1 + 1, 5, none⟩ (.int .i64 y.2.timer)).drew (g) 59 [.int .i64 y.1.most, .int .i64 y.1.credit, .int .i64 y.1.state, .int .i64 y.1.sq, .int .i64 y.1.peer, .int .i64 y.1.cc, .int .i64 y.1.ms, .string y.1.data]) := Blk.drew hoq4_2C
  have HBOC4 : Hid (Blk ((((((((((((((w3.setCell ⟨g + 1, 0, none⟩ (.int .i64 y.1.most)).setCell ⟨g + 1, 1, none⟩ (.int .i64 y.1.credit)).setCell ⟨g + 1, 2, none⟩ (.int .i64 y.1.state)).setCell ⟨g + 1, 3, none⟩ (.int .i64 y.1.sq)).setCell ⟨g + 1, 4, none⟩ (.int .i64 y.1.peer)).setCell ⟨g + 1, 5, none⟩ (.int .i64 y.1.cc)).setCell ⟨g + 1, 6, none⟩ (.int .i64 y.1.ms)).setCell ⟨g + 1, 7, none⟩ (.string y.1.data)).setCell ⟨g + 1 + 1, 0, none⟩ (.slice P2.A1 y.2.sigs.length P2.c1)).setCell ⟨g + 1 + 1, 1, none⟩ (.slice P2.A2 y.2.units.length P2.c2)).setCell ⟨g + 1 + 1, 2, none⟩ (.bool y.2.begins)).setCell ⟨g + 1 + 1, 3, none⟩ (.bool y.2.ends)).setCell ⟨g + 1 + 1, 4, none⟩ (.int .i64 y.2.ms)).setCell ⟨g + 1 + 1, 5, none⟩ (.int .i64 y.2.timer)).drew (g + 1) 59 [.int .i64 y.1.most, .int .i64 y.1.credit, .int .i64 y.1.state, .int .i64 y.1.sq, .int .i64 y.1.peer, .int .i64 y.1.cc, .int .i64 y.1.ms, .string y.1.data]) := Blk.drew hoq4_2OC
  have HBOR4 : Hid (Blk ((((((((((((((w3.setCell ⟨g + 1, 0, none⟩ (.int .i64 y.1.most)).setCell ⟨g + 1, 1, none⟩ (.int .i64 y.1.credit)).setCell ⟨g + 1, 2, none⟩ (.int .i64 y.1.state)).setCell ⟨g + 1, 3, none⟩ (.int .i64 y.1.sq)).setCell ⟨g + 1, 4, none⟩ (.int .i64 y.1.peer)).setCell ⟨g + 1, 5, none⟩ (.int .i64 y.1.cc)).setCell ⟨g + 1, 6, none⟩ (.int .i64 y.1.ms)).setCell ⟨g + 1, 7, none⟩ (.string y.1.data)).setCell ⟨g + 1 + 1, 0, none⟩ (.slice P2.A1 y.2.sigs.length P2.c1)).setCell ⟨g + 1 + 1, 1, none⟩ (.slice P2.A2 y.2.units.length P2.c2)).setCell ⟨g + 1 + 1, 2, none⟩ (.bool y.2.begins)).setCell ⟨g + 1 + 1, 3, none⟩ (.bool y.2.ends)).setCell ⟨g + 1 + 1, 4, none⟩ (.int .i64 y.2.ms)).setCell ⟨g + 1 + 1, 5, none⟩ (.int .i64 y.2.timer)).drew (g + 1 + 1) 90 [.slice P2.A1 y.2.sigs.length P2.c1, .slice P2.A2 y.2.units.length P2.c2, .bool y.2.begins, .bool y.2.ends, .int .i64 y.2.ms, .int .i64 y.2.timer]) := Blk.drew hbq4_2
  have HBR4 : Hid (Blk ((((((((((((((w3.setCell ⟨g + 1, 0, none⟩ (.int .i64 y.1.most)).setCell ⟨g + 1, 1, none⟩ (.int .i64 y.1.credit)).setCell ⟨g + 1, 2, none⟩ (.int .i64 y.1.state)).setCell ⟨g + 1, 3, none⟩ (.int .i64 y.1.sq)).setCell ⟨g + 1, 4, none⟩ (.int .i64 y.1.peer)).setCell ⟨g + 1, 5, none⟩ (.int .i64 y.1.cc)).setCell ⟨g + 1, 6, none⟩ (.int .i64 y.1.ms)).setCell ⟨g + 1, 7, none⟩ (.string y.1.data)).setCell ⟨g + 1 + 1, 0, none⟩ (.slice P2.A1 y.2.sigs.length P2.c1)).setCell ⟨g + 1 + 1, 1, none⟩ (.slice P2.A2 y.2.units.length P2.c2)).setCell ⟨g + 1 + 1, 2, none⟩ (.bool y.2.begins)).setCell ⟨g + 1 + 1, 3, none⟩ (.bool y.2.ends)).setCell ⟨g + 1 + 1, 4, none⟩ (.int .i64 y.2.ms)).setCell ⟨g + 1 + 1, 5, none⟩ (.int .i64 y.2.timer)).drew (g + 1 + 1 + 1) 90 [.slice P2.A1 y.2.sigs.length P2.c1, .slice P2.A2 y.2.units.length P2.c2, .bool y.2.begins, .bool y.2.ends, .int .i64 y.2.ms, .int .i64 y.2.timer]) := Blk.drew hoq4_2R
  have HR4 := Lib.hid (RIn.old hrq4_2 (Touch.refl _ ((((((((((((((w3.setCell ⟨g + 1, 0, none⟩ (.int .i64 y.1.most)).setCell ⟨g + 1, 1, none⟩ (.int .i64 y.1.credit)).setCell ⟨g + 1, 2, none⟩ (.int .i64 y.1.state)).setCell ⟨g + 1, 3, none⟩ (.int .i64 y.1.sq)).setCell ⟨g + 1, 4, none⟩ (.int .i64 y.1.peer)).setCell ⟨g + 1, 5, none⟩ (.int .i64 y.1.cc)).setCell ⟨g + 1, 6, none⟩ (.int .i64 y.1.ms)).setCell ⟨g + 1, 7, none⟩ (.string y.1.data)).setCell ⟨g + 1 + 1, 0, none⟩ (.slice P2.A1 y.2.sigs.length P2.c1)).setCell ⟨g + 1 + 1, 1, none⟩ (.slice P2.A2 y.2.units.length P2.c2)).setCell ⟨g + 1 + 1, 2, none⟩ (.bool y.2.begins)).setCell ⟨g + 1 + 1, 3, none⟩ (.bool y.2.ends)).setCell ⟨g + 1 + 1, 4, none⟩ (.int .i64 y.2.ms)).setCell ⟨g + 1 + 1, 5, none⟩ (.int .i64 y.2.timer))).drew)
  have HT4 : Hid (Touch (OfAct K) w ((((((((((((((w3.setCell ⟨g + 1, 0, none⟩ (.int .i64 y.1.most)).setCell ⟨g + 1, 1, none⟩ (.int .i64 y.1.credit)).setCell ⟨g + 1, 2, none⟩ (.int .i64 y.1.state)).setCell ⟨g + 1, 3, none⟩ (.int .i64 y.1.sq)).setCell ⟨g + 1, 4, none⟩ (.int .i64 y.1.peer)).setCell ⟨g + 1, 5, none⟩ (.int .i64 y.1.cc)).setCell ⟨g + 1, 6, none⟩ (.int .i64 y.1.ms)).setCell ⟨g + 1, 7, none⟩ (.string y.1.data)).setCell ⟨g + 1 + 1, 0, none⟩ (.slice P2.A1 y.2.sigs.length P2.c1)).setCell ⟨g + 1 + 1, 1, none⟩ (.slice P2.A2 y.2.units.length P2.c2)).setCell ⟨g + 1 + 1, 2, none⟩ (.bool y.2.begins)).setCell ⟨g + 1 + 1, 3, none⟩ (.bool y.2.ends)).setCell ⟨g + 1 + 1, 4, none⟩ (.int .i64 y.2.ms)).setCell ⟨g + 1 + 1, 5, none⟩ (.int .i64 y.2.timer)).drew) := Touch.drew hTq4_2
  clear HBC3 HBOC3 HBOR3 HBR3 HR3 HT3 htq4_1 hbq4_1 hrq4_1 hTq4_1 hoq4_1C hoq4_1OR hoq4_1R htq4_2 hbq4_2 hrq4_2 hTq4_2 hoq4_2C hoq4_2OC hoq4_2R
  generalize ((((((((((((((w3.setCell ⟨g + 1, 0, none⟩ (.int .i64 y.1.most)).setCell ⟨g + 1, 1, none⟩ (.int .i64 y.1.credit)).setCell ⟨g + 1, 2, none⟩ (.int .i64 y.1.state)).setCell ⟨g + 1, 3, none⟩ (.int .i64 y.1.sq)).setCell ⟨g + 1, 4, none⟩ (.int .i64 y.1.peer)).setCell ⟨g + 1, 5, none⟩ (.int .i64 y.1.cc)).setCell ⟨g + 1, 6, none⟩ (.int .i64 y.1.ms)).setCell ⟨g + 1, 7, none⟩ (.string y.1.data)).setCell ⟨g + 1 + 1, 0, none⟩ (.slice P2.A1 y.2.sigs.length P2.c1)).setCell ⟨g + 1 + 1, 1, none⟩ (.slice P2.A2 y.2.units.length P2.c2)).setCell ⟨g + 1 + 1, 2, none⟩ (.bool y.2.begins)).setCell ⟨g + 1 + 1, 3, none⟩ (.bool y.2.ends)).setCell ⟨g + 1 + 1, 4, none⟩ (.int .i64 y.2.ms)).setCell ⟨g + 1 + 1, 5, none⟩ (.int .i64 y.2.timer)).drew = w4 at *
  have HX : Hid (∀ e, e = .returned (.tuple #[.agg #[.int .i64 y.1.most, .int .i64 y.1.credit, .int .i64 y.1.state, .int .i64 y.1.sq, .int .i64 y.1.peer, .int .i64 y.1.cc, .int .i64 y.1.ms, .string y.1.data], .agg #[.slice P2.A1 y.2.sigs.length P2.c1, .slice P2.A2 y.2.units.length P2.c2, .bool y.2.begins, .bool y.2.ends, .int .i64 y.2.ms, .int .i64 y.2.timer], .int .i64 0]) → RPost3 K (0 + 9) (Cn.ask (s, Cn.r0) 1 d) (0) w e w4) := fun e he => ⟨P2, he.trans (by (rw [HAE.out]; rfl)), by (refine ((HR4.out.less HL.out).wide (by omega)).eq ?_ ?_ <;> (rw [HAE.out])), HT4.out⟩
  have zOC0 : w4.cell? ⟨g + 1, 0, none⟩ = some (.int .i64 y.1.most) := HBOC4.out.cell 0
  have zOC1 : w4.cell? ⟨g + 1, 1, none⟩ = some (.int .i64 y.1.credit) := HBOC4.out.cell 1
  have zOC2 : w4.cell? ⟨g + 1, 2, none⟩ = some (.int .i64 y.1.state) := HBOC4.out.cell 2
  have zOC3 : w4.cell? ⟨g + 1, 3, none⟩ = some (.int .i64 y.1.sq) := HBOC4.out.cell 3
  have zOC4 : w4.cell? ⟨g + 1, 4, none⟩ = some (.int .i64 y.1.peer) := HBOC4.out.cell 4
  have zOC5 : w4.cell? ⟨g + 1, 5, none⟩ = some (.int .i64 y.1.cc) := HBOC4.out.cell 5
  have zOC6 : w4.cell? ⟨g + 1, 6, none⟩ = some (.int .i64 y.1.ms) := HBOC4.out.cell 6
  have zOC7 : w4.cell? ⟨g + 1, 7, none⟩ = some (.string y.1.data) := HBOC4.out.cell 7
  have zOR0 : w4.cell? ⟨g + 1 + 1, 0, none⟩ = some (.slice P2.A1 y.2.sigs.length P2.c1) := HBOR4.out.cell 0
  have zOR1 : w4.cell? ⟨g + 1 + 1, 1, none⟩ = some (.slice P2.A2 y.2.units.length P2.c2) := HBOR4.out.cell 1
  have zOR2 : w4.cell? ⟨g + 1 + 1, 2, none⟩ = some (.bool y.2.begins) := HBOR4.out.cell 2
  have zOR3 : w4.cell? ⟨g + 1 + 1, 3, none⟩ = some (.bool y.2.ends) := HBOR4.out.cell 3
  have zOR4 : w4.cell? ⟨g + 1 + 1, 4, none⟩ = some (.int .i64 y.2.ms) := HBOR4.out.cell 4
  have zOR5 : w4.cell? ⟨g + 1 + 1, 5, none⟩ = some (.int .i64 y.2.timer) := HBOR4.out.cell 5
  go_wp2
  exact bodyPost_ret (v := _) (by simp [results, Try.results53, go_sem, zOC0, zOC1, zOC2, zOC3, zOC4, zOC5, zOC6, zOC7, zOR0, zOR1, zOR2, zOR3, zOR4, zOR5]) rfl (HX.out _ rfl)

set_option maxHeartbeats 4000000 in
set_option maxRecDepth 100000 in
theorem rrequest_4 {K : Nat → Prop} {w : World} {s : Cn.S} (hlim : ∀ k, K k → k < w.heap.size) (d : ByteArray) (hd : d.size ≤ maxLen) (hq : 0 ≤ s.sq ∧ s.sq ≤ 255) (hb : Cn.bigAsk 4 d = false) (hm : Ru.refMay s.state 4 = true) :
    Calls Try.prog 53 #[rcV s, .int .i64 4, .string d] w (RPost3 K 9 (Cn.ask (s, Cn.r0) 4 d) (0) w) := by
  unfold rcV
  unfold maxLen at hd
  have h := RIn.nil (w := w) hlim
  obtain ⟨w1, q0⟩ : ∃ x : World, x = ((((w.alloc (.cells #[.int .i64 s.most, .int .i64 s.credit, .int .i64 s.state, .int .i64 s.sq, .int .i64 s.peer, .int .i64 s.cc, .int .i64 s.ms, .string s.data] 59)).alloc (.cells #[.int .i64 0, .int .i64 0, .int .i64 0, .int .i64 0, .int .i64 0, .int .i64 0, .int .i64 0, .string { data := #[] }] 59)).alloc (.cells #[.slice none 0 0, .slice none 0 0, .bool false, .bool false, .int .i64 0, .int .i64 0] 90)).alloc (.cells #[.slice none 0 0, .slice none 0 0, .bool false, .bool false, .int .i64 0, .int .i64 0] 90)) := ⟨_, rfl⟩
  have q_w1 := Lib.hid q0
  clear q0
  have HF : Hid (Fresh w w1) := by rw [q_w1.out]; exact ((((Touch.refl _ w).alloc _).alloc _).alloc _).alloc _
  have HBC1 : Hid (Blk w1 (w.heap.size) 59 [.int .i64 s.most, .int .i64 s.credit, .int .i64 s.state, .int .i64 s.sq, .int .i64 s.peer, .int .i64 s.cc, .int .i64 s.ms, .string s.data]) := by
    rw [q_w1.out]
    have := (((Blk.new w 59 [.int .i64 s.most, .int .i64 s.credit, .int .i64 s.state, .int .i64 s.sq, .int .i64 s.peer, .int .i64 s.cc, .int .i64 s.ms, .string s.data]).alloc (.cells #[.int .i64 0, .int .i64 0, .int .i64 0, .int .i64 0, .int .i64 0, .int .i64 0, .int .i64 0, .string { data := #[] }] 59)).alloc (.cells #[.slice none 0 0, .slice none 0 0, .bool false, .bool false, .int .i64 0, .int .i64 0] 90)).alloc (.cells #[.slice none 0 0, .slice none 0 0, .bool false, .bool false, .int .i64 0, .int .i64 0] 90)
    exact this
  have HGC : Hid (Kept K w w1 (w.heap.size)) := by rw [q_w1.out]; exact .inr ⟨by omega, by simp; try omega⟩
  have HBOC1 : Hid (Blk w1 (w.heap.size + 1) 59 [.int .i64 0, .int .i64 0, .int .i64 0, .int .i64 0, .int .i64 0, .int .i64 0, .int .i64 0, .string { data := #[] }]) := by
    rw [q_w1.out]
    have := ((Blk.new (w.alloc (.cells #[.int .i64 s.most, .int .i64 s.credit, .int .i64 s.state, .int .i64 s.sq, .int .i64 s.peer, .int .i64 s.cc, .int .i64 s.ms, .string s.data] 59)) 59 [.int .i64 0, .int .i64 0, .int .i64 0, .int .i64 0, .int .i64 0, .int .i64 0, .int .i64 0, .string { data := #[] }]).alloc (.cells #[.slice none 0 0, .slice none 0 0, .bool false, .bool false, .int .i64 0, .int .i64 0] 90)).alloc (.cells #[.slice none 0 0, .slice none 0 0, .bool false, .bool false, .int .i64 0, .int .i64 0] 90)
    rwa [show (w.alloc (.cells #[.int .i64 s.most, .int .i64 s.credit, .int .i64 s.state, .int .i64 s.sq, .int .i64 s.peer, .int .i64 s.cc, .int .i64 s.ms, .string s.data] 59)).heap.size = w.heap.size + 1 by simp] at this
  have HGOC : Hid (Kept K w w1 (w.heap.size + 1)) := by rw [q_w1.out]; exact .inr ⟨by omega, by simp; try omega⟩
  have HBOR1 : Hid (Blk w1 (w.heap.size + 1 + 1) 90 [.slice none 0 0, .slice none 0 0, .bool false, .bool false, .int .i64 0, .int .i64 0]) := by
    rw [q_w1.out]
    have := (Blk.new ((w.alloc (.cells #[.int .i64 s.most, .int .i64 s.credit, .int .i64 s.state, .int .i64 s.sq, .int .i64 s.peer, .int .i64 s.cc, .int .i64 s.ms, .string s.data] 59)).alloc (.cells #[.int .i64 0, .int .i64 0, .int .i64 0, .int .i64 0, .int .i64 0, .int .i64 0, .int .i64 0, .string { data := #[] }] 59)) 90 [.slice none 0 0, .slice none 0 0, .bool false, .bool false, .int .i64 0, .int .i64 0]).alloc (.cells #[.slice none 0 0, .slice none 0 0, .bool false, .bool false, .int .i64 0, .int .i64 0] 90)
    rwa [show ((w.alloc (.cells #[.int .i64 s.most, .int .i64 s.credit, .int .i64 s.state, .int .i64 s.sq, .int .i64 s.peer, .int .i64 s.cc, .int .i64 s.ms, .string s.data] 59)).alloc (.cells #[.int .i64 0, .int .i64 0, .int .i64 0, .int .i64 0, .int .i64 0, .int .i64 0, .int .i64 0, .string { data := #[] }] 59)).heap.size = w.heap.size + 1 + 1 by simp] at this
  have HGOR : Hid (Kept K w w1 (w.heap.size + 1 + 1)) := by rw [q_w1.out]; exact .inr ⟨by omega, by simp; try omega⟩
  have HBR1 : Hid (Blk w1 (w.heap.size + 1 + 1 + 1) 90 [.slice none 0 0, .slice none 0 0, .bool false, .bool false, .int .i64 0, .int .i64 0]) := by
    rw [q_w1.out]
    have := Blk.new (((w.alloc (.cells #[.int .i64 s.most, .int .i64 s.credit, .int .i64 s.state, .int .i64 s.sq, .int .i64 s.peer, .int .i64 s.cc, .int .i64 s.ms, .string s.data] 59)).alloc (.cells #[.int .i64 0, .int .i64 0, .int .i64 0, .int .i64 0, .int .i64 0, .int .i64 0, .int .i64 0, .string { data := #[] }] 59)).alloc (.cells #[.slice none 0 0, .slice none 0 0, .bool false, .bool false, .int .i64 0, .int .i64 0] 90)) 90 [.slice none 0 0, .slice none 0 0, .bool false, .bool false, .int .i64 0, .int .i64 0]
    rwa [show (((w.alloc (.cells #[.int .i64 s.most, .int .i64 s.credit, .int .i64 s.state, .int .i64 s.sq, .int .i64 s.peer, .int .i64 s.cc, .int .i64 s.ms, .string s.data] 59)).alloc (.cells #[.int .i64 0, .int .i64 0, .int .i64 0, .int .i64 0, .int .i64 0, .int .i64 0, .int .i64 0, .string { data := #[] }] 59)).alloc (.cells #[.slice none 0 0, .slice none 0 0, .bool false, .bool false, .int .i64 0, .int .i64 0] 90)).heap.size = w.heap.size + 1 + 1 + 1 by simp] at this
  have HGR : Hid (Kept K w w1 (w.heap.size + 1 + 1 + 1)) := by rw [q_w1.out]; exact .inr ⟨by omega, by simp; try omega⟩
  have HL : Hid (∀ k, K k → Kept K w w1 k) := by rw [q_w1.out]; exact fun k e => .inl e
  have HLIM : Hid (∀ k, K k → k < w.heap.size) := h.lim
  have HR1 := Lib.hid (h.keep HF.out)
  have HT1 : Hid (Touch (OfAct K) w w1) := HF.out.mono (fun _ _ e => e.elim)
  clear h hlim HF
  go_enter Try.func53, Try.ntmps53
  go_upto_region 2 with (fail)
  rw [← q_w1.out]
  clear q_w1
  generalize Kept K w w1 = K1 at *
  generalize w.heap.size = g at *
  have h64 : decide (64 < (d.size : Int)) = false := by unfold Cn.bigAsk at hb; simpa using hb
  have HM := Lib.hid hm
  have HMAY := Lib.hid (refMay_any s.state 4 w1)
  have HQ := Lib.hid hq
  clear hb hm hq
  have xC0 : w1.cell? ⟨g, 0, none⟩ = some (.int .i64 s.most) := HBC1.out.cell 0
  have xC1 : w1.cell? ⟨g, 1, none⟩ = some (.int .i64 s.credit) := HBC1.out.cell 1
  have xC2 : w1.cell? ⟨g, 2, none⟩ = some (.int .i64 s.state) := HBC1.out.cell 2
  have xC3 : w1.cell? ⟨g, 3, none⟩ = some (.int .i64 s.sq) := HBC1.out.cell 3
  have xC4 : w1.cell? ⟨g, 4, none⟩ = some (.int .i64 s.peer) := HBC1.out.cell 4
  have xC5 : w1.cell? ⟨g, 5, none⟩ = some (.int .i64 s.cc) := HBC1.out.cell 5
  have xC6 : w1.cell? ⟨g, 6, none⟩ = some (.int .i64 s.ms) := HBC1.out.cell 6
  have xC7 : w1.cell? ⟨g, 7, none⟩ = some (.string s.data) := HBC1.out.cell 7
  go_wp2_with fail
  refine HMAY.out.mono ?_
  rintro e w2 ⟨rfl, rfl⟩
  rw [HM.out]
  simp only
  clear xC0 xC1 xC2 xC3 xC4 xC5 xC6 xC7
  have xC0 : w1.cell? ⟨g, 0, none⟩ = some (.int .i64 s.most) := HBC1.out.cell 0
  have xC1 : w1.cell? ⟨g, 1, none⟩ = some (.int .i64 s.credit) := HBC1.out.cell 1
  have xC2 : w1.cell? ⟨g, 2, none⟩ = some (.int .i64 s.state) := HBC1.out.cell 2
  have xC3 : w1.cell? ⟨g, 3, none⟩ = some (.int .i64 s.sq) := HBC1.out.cell 3
  have xC4 : w1.cell? ⟨g, 4, none⟩ = some (.int .i64 s.peer) := HBC1.out.cell 4
  have xC5 : w1.cell? ⟨g, 5, none⟩ = some (.int .i64 s.cc) := HBC1.out.cell 5
  have xC6 : w1.cell? ⟨g, 6, none⟩ = some (.int .i64 s.ms) := HBC1.out.cell 6
  have xC7 : w1.cell? ⟨g, 7, none⟩ = some (.string s.data) := HBC1.out.cell 7
  have xR0 : w1.cell? ⟨g + 1 + 1 + 1, 0, none⟩ = some (.slice none 0 0) := HBR1.out.cell 0
  have xR1 : w1.cell? ⟨g + 1 + 1 + 1, 1, none⟩ = some (.slice none 0 0) := HBR1.out.cell 1
  have xR2 : w1.cell? ⟨g + 1 + 1 + 1, 2, none⟩ = some (.bool false) := HBR1.out.cell 2
  have xR3 : w1.cell? ⟨g + 1 + 1 + 1, 3, none⟩ = some (.bool false) := HBR1.out.cell 3
  have xR4 : w1.cell? ⟨g + 1 + 1 + 1, 4, none⟩ = some (.int .i64 0) := HBR1.out.cell 4
  have xR5 : w1.cell? ⟨g + 1 + 1 + 1, 5, none⟩ = some (.int .i64 0) := HBR1.out.cell 5
  go_wp2_with fail
  refine (rbegin_any (s := s) (r := Cn.r0) HR1.out (by omega) HQ.out 5 5 d rfl).mono ?_
  rintro e w2 ⟨P2, rfl, hr2, ht2⟩
  simp only [rcV, rrV]
  have HBC2 := Lib.hid (ht2.keptB HBC1.out HGC.out)
  have HBOC2 := Lib.hid (ht2.keptB HBOC1.out HGOC.out)
  have HBOR2 := Lib.hid (ht2.keptB HBOR1.out HGOR.out)
  have HBR2 := Lib.hid (ht2.keptB HBR1.out HGR.out)
  have HR2 := Lib.hid hr2
  have HT2 : Hid (Touch (OfAct K) w w2) := HT1.out.trans (ht2.loose HL.out) (fun _ _ e => e)
  clear xC0 xC1 xC2 xC3 xC4 xC5 xC6 xC7 xR0 xR1 xR2 xR3 xR4 xR5
  clear hr2 ht2 HBC1 HBOC1 HBOR1 HBR1 HR1 HT1
  obtain ⟨y, hy⟩ : ∃ q_, Cn.begin_ (s, Cn.r0) 5 d = q_ := ⟨_, rfl⟩
  have HYy := Lib.hid hy
  rw [hy]
  rw [hy] at HR2
  clear hy
  have xC0 : w2.cell? ⟨g, 0, none⟩ = some (.int .i64 s.most) := HBC2.out.cell 0
  have fC0 := HBC2.out.frozen 0
  have xC1 : w2.cell? ⟨g, 1, none⟩ = some (.int .i64 s.credit) := HBC2.out.cell 1
  have fC1 := HBC2.out.frozen 1
  have xC2 : w2.cell? ⟨g, 2, none⟩ = some (.int .i64 s.state) := HBC2.out.cell 2
  have fC2 := HBC2.out.frozen 2
  have xC3 : w2.cell? ⟨g, 3, none⟩ = some (.int .i64 s.sq) := HBC2.out.cell 3
  have fC3 := HBC2.out.frozen 3
  have xC4 : w2.cell? ⟨g, 4, none⟩ = some (.int .i64 s.peer) := HBC2.out.cell 4
  have fC4 := HBC2.out.frozen 4
  have xC5 : w2.cell? ⟨g, 5, none⟩ = some (.int .i64 s.cc) := HBC2.out.cell 5
  have fC5 := HBC2.out.frozen 5
  have xC6 : w2.cell? ⟨g, 6, none⟩ = some (.int .i64 s.ms) := HBC2.out.cell 6
  have fC6 := HBC2.out.frozen 6
  have xC7 : w2.cell? ⟨g, 7, none⟩ = some (.string s.data) := HBC2.out.cell 7
  have fC7 := HBC2.out.frozen 7
  have xR0 : w2.cell? ⟨g + 1 + 1 + 1, 0, none⟩ = some (.slice none 0 0) := HBR2.out.cell 0
  have fR0 := HBR2.out.frozen 0
  have xR1 : w2.cell? ⟨g + 1 + 1 + 1, 1, none⟩ = some (.slice none 0 0) := HBR2.out.cell 1
  have fR1 := HBR2.out.frozen 1
  have xR2 : w2.cell? ⟨g + 1 + 1 + 1, 2, none⟩ = some (.bool false) := HBR2.out.cell 2
  have fR2 := HBR2.out.frozen 2
  have xR3 : w2.cell? ⟨g + 1 + 1 + 1, 3, none⟩ = some (.bool false) := HBR2.out.cell 3
  have fR3 := HBR2.out.frozen 3
  have xR4 : w2.cell? ⟨g + 1 + 1 + 1, 4, none⟩ = some (.int .i64 0) := HBR2.out.cell 4
  have fR4 := HBR2.out.frozen 4
  have xR5 : w2.cell? ⟨g + 1 + 1 + 1, 5, none⟩ = some (.int .i64 0) := HBR2.out.cell 5
  have fR5 := HBR2.out.frozen 5
  have HAE : Hid (Cn.ask (s, Cn.r0) 4 d = y) := by rw [← HYy.out]; rfl
  go_wp2
  have htq3_1 : Touch (· = g) w2 ((((((((w2.setCell ⟨g, 0, none⟩ (.int .i64 y.1.most)).setCell ⟨g, 1, none⟩ (.int .i64 y.1.credit)).setCell ⟨g, 2, none⟩ (.int .i64 y.1.state)).setCell ⟨g, 3, none⟩ (.int .i64 y.1.sq)).setCell ⟨g, 4, none⟩ (.int .i64 y.1.peer)).setCell ⟨g, 5, none⟩ (.int .i64 y.1.cc)).setCell ⟨g, 6, none⟩ (.int .i64 y.1.ms)).setCell ⟨g, 7, none⟩ (.string y.1.data)) := (((((((((Touch.refl _ w2).st (S := (· = g)) (u := .int .i64 y.1.most) (by exact rfl)).st (S := (· = g)) (u := .int .i64 y.1.credit) (by exact rfl)).st (S := (· = g)) (u := .int .i64 y.1.state) (by exact rfl)).st (S := (· = g)) (u := .int .i64 y.1.sq) (by exact rfl)).st (S := (· = g)) (u := .int .i64 y.1.peer) (by exact rfl)).st (S := (· = g)) (u := .int .i64 y.1.cc) (by exact rfl)).st (S := (· = g)) (u := .int .i64 y.1.ms) (by exact rfl)).st (S := (· = g)) (u := .string y.1.data) (by exact rfl))
  have hbq3_1 : Blk ((((((((w2.setCell ⟨g, 0, none⟩ (.int .i64 y.1.most)).setCell ⟨g, 1, none⟩ (.int .i64 y.1.credit)).setCell ⟨g, 2, none⟩ (.int .i64 y.1.state)).setCell ⟨g, 3, none⟩ (.int .i64 y.1.sq)).setCell ⟨g, 4, none⟩ (.int .i64 y.1.peer)).setCell ⟨g, 5, none⟩ (.int .i64 y.1.cc)).setCell ⟨g, 6, none⟩ (.int .i64 y.1.ms)).setCell ⟨g, 7, none⟩ (.string y.1.data)) (g) 59 [.int .i64 y.1.most, .int .i64 y.1.credit, .int .i64 y.1.state, .int .i64 y.1.sq, .int .i64 y.1.peer, .int .i64 y.1.cc, .int .i64 y.1.ms, .string y.1.data] := ((((((((HBC2.out.set 0 (.int .i64 y.1.most)).set 1 (.int .i64 y.1.credit)).set 2 (.int .i64 y.1.state)).set 3 (.int .i64 y.1.sq)).set 4 (.int .i64 y.1.peer)).set 5 (.int .i64 y.1.cc)).set 6 (.int .i64 y.1.ms)).set 7 (.string y.1.data))
  have hoq3_1OC := htq3_1.blk HBOC2.out (by intro e; have e : g + 1 = g := e; omega)
  have hoq3_1OR := htq3_1.blk HBOR2.out (by intro e; have e : g + 1 + 1 = g := e; omega)
  have hoq3_1R := htq3_1.blk HBR2.out (by intro e; have e : g + 1 + 1 + 1 = g := e; omega)
  have hrq3_1 := HR2.out.touch htq3_1 (fun k e => by have e : k = g := e; rw [e]; exact HGC.out)
  have hTq3_1 : Touch (OfAct K) w ((((((((w2.setCell ⟨g, 0, none⟩ (.int .i64 y.1.most)).setCell ⟨g, 1, none⟩ (.int .i64 y.1.credit)).setCell ⟨g, 2, none⟩ (.int .i64 y.1.state)).setCell ⟨g, 3, none⟩ (.int .i64 y.1.sq)).setCell ⟨g, 4, none⟩ (.int .i64 y.1.peer)).setCell ⟨g, 5, none⟩ (.int .i64 y.1.cc)).setCell ⟨g, 6, none⟩ (.int .i64 y.1.ms)).setCell ⟨g, 7, none⟩ (.string y.1.data)) := HT2.out.trans htq3_1 (fun k _ e => by have e : k = g := e; intro hk; have := HLIM.out k hk; omega)
  obtain ⟨w3, q0⟩ : ∃ x : World, x = ((((((((((((((w2.setCell ⟨g, 0, none⟩ (.int .i64 y.1.most)).setCell ⟨g, 1, none⟩ (.int .i64 y.1.credit)).setCell ⟨g, 2, none⟩ (.int .i64 y.1.state)).setCell ⟨g, 3, none⟩ (.int .i64 y.1.sq)).setCell ⟨g, 4, none⟩ (.int .i64 y.1.peer)).setCell ⟨g, 5, none⟩ (.int .i64 y.1.cc)).setCell ⟨g, 6, none⟩ (.int .i64 y.1.ms)).setCell ⟨g, 7, none⟩ (.string y.1.data)).setCell ⟨g + 1 + 1 + 1, 0, none⟩ (.slice P2.A1 y.2.sigs.length P2.c1)).setCell ⟨g + 1 + 1 + 1, 1, none⟩ (.slice P2.A2 y.2.units.length P2.c2)).setCell ⟨g + 1 + 1 + 1, 2, none⟩ (.bool y.2.begins)).setCell ⟨g + 1 + 1 + 1, 3, none⟩ (.bool y.2.ends)).setCell ⟨g + 1 + 1 + 1, 4, none⟩ (.int .i64 y.2.ms)).setCell ⟨g + 1 + 1 + 1, 5, none⟩ (.int .i64 y.2.timer)) := ⟨_, rfl⟩
  have q_w3 := Lib.hid q0
  clear q0
  have htq3_2 : Touch (· = g + 1 + 1 + 1) ((((((((w2.setCell ⟨g, 0, none⟩ (.int .i64 y.1.most)).setCell ⟨g, 1, none⟩ (.int .i64 y.1.credit)).setCell ⟨g, 2, none⟩ (.int .i64 y.1.state)).setCell ⟨g, 3, none⟩ (.int .i64 y.1.sq)).setCell ⟨g, 4, none⟩ (.int .i64 y.1.peer)).setCell ⟨g, 5, none⟩ (.int .i64 y.1.cc)).setCell ⟨g, 6, none⟩ (.int .i64 y.1.ms)).setCell ⟨g, 7, none⟩ (.string y.1.data)) w3 := by rw [q_w3.out]; exact (((((((Touch.refl _ ((((((((w2.setCell ⟨g, 0, none⟩ (.int .i64 y.1.most)).setCell ⟨g, 1, none⟩ (.int .i64 y.1.credit)).setCell ⟨g, 2, none⟩ (.int .i64 y.1.state)).setCell ⟨g, 3, none⟩ (.int .i64 y.1.sq)).setCell ⟨g, 4, none⟩ (.int .i64 y.1.peer)).setCell ⟨g, 5, none⟩ (.int .i64 y.1.cc)).setCell ⟨g, 6, none⟩ (.int .i64 y.1.ms)).setCell ⟨g, 7, none⟩ (.string y.1.data))).st (S := (· = g + 1 + 1 + 1)) (u := .slice P2.A1 y.2.sigs.length P2.c1) (by exact rfl)).st (S := (· = g + 1 + 1 + 1)) (u := .slice P2.A2 y.2.units.length P2.c2) (by exact rfl)).st (S := (· = g + 1 + 1 + 1)) (u := .bool y.2.begins) (by exact rfl)).st (S := (· = g + 1 + 1 + 1)) (u := .bool y.2.ends) (by exact rfl)).st (S := (· = g + 1 + 1 + 1)) (u := .int .i64 y.2.ms) (by exact rfl)).st (S := (· = g + 1 + 1 + 1)) (u := .int .i64 y.2.timer) (by exact rfl))
  have hbq3_2 : Blk w3 (g + 1 + 1 + 1) 90 [.slice P2.A1 y.2.sigs.length P2.c1, .slice P2.A2 y.2.units.length P2.c2, .bool y.2.begins, .bool y.2.ends, .int .i64 y.2.ms, .int .i64 y.2.timer] := by rw [q_w3.out]; exact ((((((hoq3_1R.set 0 (.slice P2.A1 y.2.sigs.length P2.c1)).set 1 (.slice P2.A2 y.2.units.length P2.c2)).set 2 (.bool y.2.begins)).set 3 (.bool y.2.ends)).set 4 (.int .i64 y.2.ms)).set 5 (.int .i64 y.2.timer))
  have hoq3_2C := htq3_2.blk hbq3_1 (by intro e; have e : g = g + 1 + 1 + 1 := e; omega)
  have hoq3_2OC := htq3_2.blk hoq3_1OC (by intro e; have e : g + 1 = g + 1 + 1 + 1 := e; omega)
  have hoq3_2OR := htq3_2.blk hoq3_1OR (by intro e; have e : g + 1 + 1 = g + 1 + 1 + 1 := e; omega)
  have hrq3_2 := hrq3_1.touch htq3_2 (fun k e => by have e : k = g + 1 + 1 + 1 := e; rw [e]; exact HGR.out)
  have hTq3_2 : Touch (OfAct K) w w3 := hTq3_1.trans htq3_2 (fun k _ e => by have e : k = g + 1 + 1 + 1 := e; intro hk; have := HLIM.out k hk; omega)
  clear xC0 fC0 xC1 fC1 xC2 fC2 xC3 fC3 xC4 fC4 xC5 fC5 xC6 fC6 xC7 fC7 xR0 fR0 xR1 fR1 xR2 fR2 xR3 fR3 xR4 fR4 xR5 fR5
  have HBC3 : Hid (Blk w3 (g) 59 [.int .i64 y.1.most, .int .i64 y.1.credit, .int .i64 y.1.state, .int .i64 y.1.sq, .int .i64 y.1.peer, .int .i64 y.1.cc, .int .i64 y.1.ms, .string y.1.data]) := hoq3_2C
  have HBOC3 : Hid (Blk w3 (g + 1) 59 [.int .i64 0, .int .i64 0, .int .i64 0, .int .i64 0, .int .i64 0, .int .i64 0, .int .i64 0, .string { data := #[] }]) := hoq3_2OC
  have HBOR3 : Hid (Blk w3 (g + 1 + 1) 90 [.slice none 0 0, .slice none 0 0, .bool false, .bool false, .int .i64 0, .int .i64 0]) := hoq3_2OR
  have HBR3 : Hid (Blk w3 (g + 1 + 1 + 1) 90 [.slice P2.A1 y.2.sigs.length P2.c1, .slice P2.A2 y.2.units.length P2.c2, .bool y.2.begins, .bool y.2.ends, .int .i64 y.2.ms, .int .i64 y.2.timer]) := hbq3_2
  have HR3 := Lib.hid hrq3_2
  have HT3 : Hid (Touch (OfAct K) w w3) := hTq3_2
  clear HBC2 HBOC2 HBOR2 HBR2 HR2 HT2 htq3_1 hbq3_1 hrq3_1 hTq3_1 hoq3_1OC hoq3_1OR hoq3_1R htq3_2 hbq3_2 hrq3_2 hTq3_2 hoq3_2C hoq3_2OC hoq3_2OR
  rw [← q_w3.out]
  clear q_w3
  have xC0 : w3.cell? ⟨g, 0, none⟩ = some (.int .i64 y.1.most) := HBC3.out.cell 0
  have xC1 : w3.cell? ⟨g, 1, none⟩ = some (.int .i64 y.1.credit) := HBC3.out.cell 1
  have xC2 : w3.cell? ⟨g, 2, none⟩ = some (.int .i64 y.1.state) := HBC3.out.cell 2
  have xC3 : w3.cell? ⟨g, 3, none⟩ = some (.int .i64 y.1.sq) := HBC3.out.cell 3
  have xC4 : w3.cell? ⟨g, 4, none⟩ = some (.int .i64 y.1.peer) := HBC3.out.cell 4
  have xC5 : w3.cell? ⟨g, 5, none⟩ = some (.int .i64 y.1.cc) := HBC3.out.cell 5
  have xC6 : w3.cell? ⟨g, 6, none⟩ = some (.int .i64 y.1.ms) := HBC3.out.cell 6
  have xC7 : w3.cell? ⟨g, 7, none⟩ = some (.string y.1.data) := HBC3.out.cell 7
  have xR0 : w3.cell? ⟨g + 1 + 1 + 1, 0, none⟩ = some (.slice P2.A1 y.2.sigs.length P2.c1) := HBR3.out.cell 0
  have xR1 : w3.cell? ⟨g + 1 + 1 + 1, 1, none⟩ = some (.slice P2.A2 y.2.units.length P2.c2) := HBR3.out.cell 1
  have xR2 : w3.cell? ⟨g + 1 + 1 + 1, 2, none⟩ = some (.bool y.2.begins) := HBR3.out.cell 2
  have xR3 : w3.cell? ⟨g + 1 + 1 + 1, 3, none⟩ = some (.bool y.2.ends) := HBR3.out.cell 3
  have xR4 : w3.cell? ⟨g + 1 + 1 + 1, 4, none⟩ = some (.int .i64 y.2.ms) := HBR3.out.cell 4
  have xR5 : w3.cell? ⟨g + 1 + 1 + 1, 5, none⟩ = some (.int .i64 y.2.timer) := HBR3.out.cell 5
  have xOC0 : w3.cell? ⟨g + 1, 0, none⟩ = some (.int .i64 0) := HBOC3.out.cell 0
  have fOC0 := HBOC3.out.frozen 0
  have xOC1 : w3.cell? ⟨g + 1, 1, none⟩ = some (.int .i64 0) := HBOC3.out.cell 1
  have fOC1 := HBOC3.out.frozen 1
  have xOC2 : w3.cell? ⟨g + 1, 2, none⟩ = some (.int .i64 0) := HBOC3.out.cell 2
  have fOC2 := HBOC3.out.frozen 2
  have xOC3 : w3.cell? ⟨g + 1, 3, none⟩ = some (.int .i64 0) := HBOC3.out.cell 3
  have fOC3 := HBOC3.out.frozen 3
  have xOC4 : w3.cell? ⟨g + 1, 4, none⟩ = some (.int .i64 0) := HBOC3.out.cell 4
  have fOC4 := HBOC3.out.frozen 4
  have xOC5 : w3.cell? ⟨g + 1, 5, none⟩ = some (.int .i64 0) := HBOC3.out.cell 5
  have fOC5 := HBOC3.out.frozen 5
  have xOC6 : w3.cell? ⟨g + 1, 6, none⟩ = some (.int .i64 0) := HBOC3.out.cell 6
  have fOC6 := HBOC3.out.frozen 6
  have xOC7 : w3.cell? ⟨g + 1, 7, none⟩ = some (.string { data := #[] }) := HBOC3.out.cell 7
  have fOC7 := HBOC3.out.frozen 7
  have xOR0 : w3.cell? ⟨g + 1 + 1, 0, none⟩ = some (.slice none 0 0) := HBOR3.out.cell 0
  have fOR0 := HBOR3.out.frozen 0
  have xOR1 : w3.cell? ⟨g + 1 + 1, 1, none⟩ = some (.slice none 0 0) := HBOR3.out.cell 1
  have fOR1 := HBOR3.out.frozen 1
  have xOR2 : w3.cell? ⟨g + 1 + 1, 2, none⟩ = some (.bool false) := HBOR3.out.cell 2
  have fOR2 := HBOR3.out.frozen 2
  have xOR3 : w3.cell? ⟨g + 1 + 1, 3, none⟩ = some (.bool false) := HBOR3.out.cell 3
  have fOR3 := HBOR3.out.frozen 3
  have xOR4 : w3.cell? ⟨g + 1 + 1, 4, none⟩ = some (.int .i64 0) := HBOR3.out.cell 4
  have fOR4 := HBOR3.out.frozen 4
  have xOR5 : w3.cell? ⟨g + 1 + 1, 5, none⟩ = some (.int .i64 0) := HBOR3.out.cell 5
  have fOR5 := HBOR3.out.frozen 5
  go_region
  have htq4_1 : Touch (· = g + 1) w3 ((((((((w3.setCell ⟨g + 1, 0, none⟩ (.int .i64 y.1.most)).setCell ⟨g + 1, 1, none⟩ (.int .i64 y.1.credit)).setCell ⟨g + 1, 2, none⟩ (.int .i64 y.1.state)).setCell ⟨g + 1, 3, none⟩ (.int .i64 y.1.sq)).setCell ⟨g + 1, 4, none⟩ (.int .i64 y.1.peer)).setCell ⟨g + 1, 5, none⟩ (.int .i64 y.1.cc)).setCell ⟨g + 1, 6, none⟩ (.int .i64 y.1.ms)).setCell ⟨g + 1, 7, none⟩ (.string y.1.data)) := (((((((((Touch.refl _ w3).st (S := (· = g + 1)) (u := .int .i64 y.1.most) (by exact rfl)).st (S := (· = g + 1)) (u := .int .i64 y.1.credit) (by exact rfl)).st (S := (· = g + 1)) (u := .int .i64 y.1.state) (by exact rfl)).st (S := (· = g + 1)) (u := .int .i64 y.1.sq) (by exact rfl)).st (S := (· = g + 1)) (u := .int .i64 y.1.peer) (by exact rfl)).st (S := (· = g + 1)) (u := .int .i64 y.1.cc) (by exact rfl)).st (S := (· = g + 1)) (u := .int .i64 y.1.ms) (by exact rfl)).st (S := (· = g + 1)) (u := .string y.1.data) (by exact rfl))
  have hbq4_1 : Blk ((((((((w3.setCell ⟨g + 1, 0, none⟩ (.int .i64 y.1.most)).setCell ⟨g + 1, 1, none⟩ (.int .i64 y.1.credit)).setCell ⟨g + 1, 2, none⟩ (.int .i64 y.1.state)).setCell ⟨g + 1, 3, none⟩ (.int .i64 y.1.sq)).setCell ⟨g + 1, 4, none⟩ (.int .i64 y.1.peer)).setCell ⟨g + 1, 5, none⟩ (.int .i64 y.1.cc)).setCell ⟨g + 1, 6, none⟩ (.int .i64 y.1.ms)).setCell ⟨g + 1, 7, none⟩ (.string y.1.data)) (g + 1) 59 [.int .i64 y.1.most, .int .i64 y.1.credit, .int .i64 y.1.state, .int .i64 y.1.sq, .int .i64 y.1.peer, .int .i64 y.1.cc, .int .i64 y.1.ms, .string y.1.data] := ((((((((HBOC3.out.set 0 (.int .i64 y.1.most)).set 1 (.int .i64 y.1.credit)).set 2 (.int .i64 y.1.state)).set 3 (.int .i64 y.1.sq)).set 4 (.int .i64 y.1.peer)).set 5 (.int .i64 y.1.cc)).set 6 (.int .i64 y.1.ms)).set 7 (.string y.1.data))
  have hoq4_1C := htq4_1.blk HBC3.out (by intro e; have e : g = g + 1 := e; omega)
  have hoq4_1OR := htq4_1.blk HBOR3.out (by intro e; have e : g + 1 + 1 = g + 1 := e; omega)
  have hoq4_1R := htq4_1.blk HBR3.out (by intro e; have e : g + 1 + 1 + 1 = g + 1 := e; omega)
  have hrq4_1 := HR3.out.touch htq4_1 (fun k e => by have e : k = g + 1 := e; rw [e]; exact HGOC.out)
  have hTq4_1 : Touch (OfAct K) w ((((((((w3.setCell ⟨g + 1, 0, none⟩ (.int .i64 y.1.most)).setCell ⟨g + 1, 1, none⟩ (.int .i64 y.1.credit)).setCell ⟨g + 1, 2, none⟩ (.int .i64 y.1.state)).setCell ⟨g + 1, 3, none⟩ (.int .i64 y.1.sq)).setCell ⟨g + 1, 4, none⟩ (.int .i64 y.1.peer)).setCell ⟨g + 1, 5, none⟩ (.int .i64 y.1.cc)).setCell ⟨g + 1, 6, none⟩ (.int .i64 y.1.ms)).setCell ⟨g + 1, 7, none⟩ (.string y.1.data)) := HT3.out.trans htq4_1 (fun k _ e => by have e : k = g + 1 := e; intro hk; have := HLIM.out k hk; omega)
  have htq4_2 : Touch (· = g + 1 + 1) ((((((((w3.setCell ⟨g + 1, 0, none⟩ (.int .i64 y.1.most)).setCell ⟨g + 1, 1, none⟩ (.int .i64 y.1.credit)).setCell ⟨g + 1, 2, none⟩ (.int .i64 y.1.state)).setCell ⟨g + 1, 3, none⟩ (.int .i64 y.1.sq)).setCell ⟨g + 1, 4, none⟩ (.int .i64 y.1.peer)).setCell ⟨g + 1, 5, none⟩ (.int .i64 y.1.cc)).setCell ⟨g + 1, 6, none⟩ (.int .i64 y.1.ms)).setCell ⟨g + 1, 7, none⟩ (.string y.1.data)) ((((((((((((((w3.setCell ⟨g + 1, 0, none⟩ (.int .i64 y.1.most)).setCell ⟨g + 1, 1, none⟩ (.int .i64 y.1.credit)).setCell ⟨g + 1, 2, none⟩ (.int .i64 y.1.state)).setCell ⟨g + 1, 3, none⟩ (.int .i64 y.1.sq)).setCell ⟨g + 1, 4, none⟩ (.int .i64 y.1.peer)).setCell ⟨g + 1, 5, none⟩ (.int .i64 y.1.cc)).setCell ⟨g + 1, 6, none⟩ (.int .i64 y.1.ms)).setCell ⟨g + 1, 7, none⟩ (.string y.1.data)).setCell ⟨g + 1 + 1, 0, none⟩ (.slice P2.A1 y.2.sigs.length P2.c1)).setCell ⟨g + 1 + 1, 1, none⟩ (.slice P2.A2 y.2.units.length P2.c2)).setCell ⟨g + 1 + 1, 2, none⟩ (.bool y.2.begins)).setCell ⟨g + 1 + 1, 3, none⟩ (.bool y.2.ends)).setCell ⟨g + 1 + 1, 4, none⟩ (.int .i64 y.2.ms)).setCell ⟨g + 1 + 1, 5, none⟩ (.int .i64 y.2.timer)) := (((((((Touch.refl _ ((((((((w3.setCell ⟨g + 1, 0, none⟩ (.int .i64 y.1.most)).setCell ⟨g + 1, 1, none⟩ (.int .i64 y.1.credit)).setCell ⟨g + 1, 2, none⟩ (.int .i64 y.1.state)).setCell ⟨g + 1, 3, none⟩ (.int .i64 y.1.sq)).setCell ⟨g + 1, 4, none⟩ (.int .i64 y.1.peer)).setCell ⟨g + 1, 5, none⟩ (.int .i64 y.1.cc)).setCell ⟨g + 1, 6, none⟩ (.int .i64 y.1.ms)).setCell ⟨g + 1, 7, none⟩ (.string y.1.data))).st (S := (· = g + 1 + 1)) (u := .slice P2.A1 y.2.sigs.length P2.c1) (by exact rfl)).st (S := (· = g + 1 + 1)) (u := .slice P2.A2 y.2.units.length P2.c2) (by exact rfl)).st (S := (· = g + 1 + 1)) (u := .bool y.2.begins) (by exact rfl)).st (S := (· = g + 1 + 1)) (u := .bool y.2.ends) (by exact rfl)).st (S := (· = g + 1 + 1)) (u := .int .i64 y.2.ms) (by exact rfl)).st (S := (· = g + 1 + 1)) (u := .int .i64 y.2.timer) (by exact rfl))
  have hbq4_2 : Blk ((((((((((((((w3.setCell ⟨g + 1, 0, none⟩ (.int .i64 y.1.most)).setCell ⟨g + 1, 1, none⟩ (.int .i64 y.1.credit)).setCell ⟨g + 1, 2, none⟩ (.int .i64 y.1.state)).setCell ⟨g + 1, 3, none⟩ (.int .i64 y.1.sq)).setCell ⟨g + 1, 4, none⟩ (.int .i64 y.1.peer)).setCell ⟨g + 1, 5, none⟩ (.int .i64 y.1.cc)).setCell ⟨g + 1, 6, none⟩ (.int .i64 y.1.ms)).setCell ⟨g + 1, 7, none⟩ (.string y.1.data)).setCell ⟨g + 1 + 1, 0, none⟩ (.slice P2.A1 y.2.sigs.length P2.c1)).setCell ⟨g + 1 + 1, 1, none⟩ (.slice P2.A2 y.2.units.length P2.c2)).setCell ⟨g + 1 + 1, 2, none⟩ (.bool y.2.begins)).setCell ⟨g + 1 + 1, 3, none⟩ (.bool y.2.ends)).setCell ⟨g + 1 + 1, 4, none⟩ (.int .i64 y.2.ms)).setCell ⟨g + 1 + 1, 5, none⟩ (.int .i64 y.2.timer)) (g + 1 + 1) 90 [.slice P2.A1 y.2.sigs.length P2.c1, .slice P2.A2 y.2.units.length P2.c2, .bool y.2.begins, .bool y.2.ends, .int .i64 y.2.ms, .int .i64 y.2.timer] := ((((((hoq4_1OR.set 0 (.slice P2.A1 y.2.sigs.length P2.c1)).set 1 (.slice P2.A2 y.2.units.length P2.c2)).set 2 (.bool y.2.begins)).set 3 (.bool y.2.ends)).set 4 (.int .i64 y.2.ms)).set 5 (.int .i64 y.2.timer))
  have hoq4_2C := htq4_2.blk hoq4_1C (by intro e; have e : g = g + 1 + 1 := e; omega)
  have hoq4_2OC := htq4_2.blk hbq4_1 (by intro e; have e : g + 1 = g + 1 + 1 := e; omega)
  have hoq4_2R := htq4_2.blk hoq4_1R (by intro e; have e : g + 1 + 1 + 1 = g + 1 + 1 := e; omega)
  have hrq4_2 := hrq4_1.touch htq4_2 (fun k e => by have e : k = g + 1 + 1 := e; rw [e]; exact HGOR.out)
  have hTq4_2 : Touch (OfAct K) w ((((((((((((((w3.setCell ⟨g + 1, 0, none⟩ (.int .i64 y.1.most)).setCell ⟨g + 1, 1, none⟩ (.int .i64 y.1.credit)).setCell ⟨g + 1, 2, none⟩ (.int .i64 y.1.state)).setCell ⟨g + 1, 3, none⟩ (.int .i64 y.1.sq)).setCell ⟨g + 1, 4, none⟩ (.int .i64 y.1.peer)).setCell ⟨g + 1, 5, none⟩ (.int .i64 y.1.cc)).setCell ⟨g + 1, 6, none⟩ (.int .i64 y.1.ms)).setCell ⟨g + 1, 7, none⟩ (.string y.1.data)).setCell ⟨g + 1 + 1, 0, none⟩ (.slice P2.A1 y.2.sigs.length P2.c1)).setCell ⟨g + 1 + 1, 1, none⟩ (.slice P2.A2 y.2.units.length P2.c2)).setCell ⟨g + 1 + 1, 2, none⟩ (.bool y.2.begins)).setCell ⟨g + 1 + 1, 3, none⟩ (.bool y.2.ends)).setCell ⟨g + 1 + 1, 4, none⟩ (.int .i64 y.2.ms)).setCell ⟨g + 1 + 1, 5, none⟩ (.int .i64 y.2.timer)) := hTq4_1.trans htq4_2 (fun k _ e => by have e : k = g + 1 + 1 := e; intro hk; have := HLIM.out k hk; omega)
  clear xC0 xC1 xC2 xC3 xC4 xC5 xC6 xC7 xR0 xR1 xR2 xR3 xR4 xR5 xOC0 fOC0 xOC1 fOC1 xOC2 fOC2 xOC3 fOC3 xOC4 fOC4 xOC5 fOC5 xOC6 fOC6 xOC7 fOC7 xOR0 fOR0 xOR1 fOR1 xOR2 fOR2 xOR3 fOR3 xOR4 fOR4 xOR5 fOR5
  have HBC4 : Hid (Blk ((((((((((((((w3.setCell ⟨g + 1, 0, none⟩ (.int .i64 y.1.most)).setCell ⟨g + 1, 1, none⟩ (.int .i64 y.1.credit)).setCell ⟨g + 1, 2, none⟩ (.int .i64 y.1.state)).setCell ⟨g + 1, 3, none⟩ (.int .i64 y.1.sq)).setCell ⟨g + 1, 4, none⟩ (.int .i64 y.1.peer)).setCell ⟨g + 1, 5, none⟩ (.int .i64 y.1.cc)).setCell ⟨g + 1, 6, none⟩ (.int .i64 y.1.ms)).setCell ⟨g + 1, 7, none⟩ (.string y.1.data)).setCell ⟨g + 1 + 1, 0, none⟩ (.slice P2.A1 y.2.sigs.length P2.c1)).setCell ⟨g + 1 + 1, 1, none⟩ (.slice P2.A2 y.2.units.length P2.c2)).setCell ⟨g + 1 + 1, 2, none⟩ (.bool y.2.begins)).setCell ⟨g + 1 + 1, 3, none⟩ (.bool y.2.ends)).setCell ⟨g + 1 + 1, 4, none⟩ (.int .i64 y.2.ms)).setCell ⟨g + 1 + 1, 5, none⟩ (.int .i64 y.2.timer)).drew (g) 59 [.int .i64 y.1.most, .int .i64 y.1.credit, .int .i64 y.1.state, .int .i64 y.1.sq, .int .i64 y.1.peer, .int .i64 y.1.cc, .int .i64 y.1.ms, .string y.1.data]) := Blk.drew hoq4_2C
  have HBOC4 : Hid (Blk ((((((((((((((w3.setCell ⟨g + 1, 0, none⟩ (.int .i64 y.1.most)).setCell ⟨g + 1, 1, none⟩ (.int .i64 y.1.credit)).setCell ⟨g + 1, 2, none⟩ (.int .i64 y.1.state)).setCell ⟨g + 1, 3, none⟩ (.int .i64 y.1.sq)).setCell ⟨g + 1, 4, none⟩ (.int .i64 y.1.peer)).setCell ⟨g + 1, 5, none⟩ (.int .i64 y.1.cc)).setCell ⟨g + 1, 6, none⟩ (.int .i64 y.1.ms)).setCell ⟨g + 1, 7, none⟩ (.string y.1.data)).setCell ⟨g + 1 + 1, 0, none⟩ (.slice P2.A1 y.2.sigs.length P2.c1)).setCell ⟨g + 1 + 1, 1, none⟩ (.slice P2.A2 y.2.units.length P2.c2)).setCell ⟨g + 1 + 1, 2, none⟩ (.bool y.2.begins)).setCell ⟨g + 1 + 1, 3, none⟩ (.bool y.2.ends)).setCell ⟨g + 1 + 1, 4, none⟩ (.int .i64 y.2.ms)).setCell ⟨g + 1 + 1, 5, none⟩ (.int .i64 y.2.timer)).drew (g + 1) 59 [.int .i64 y.1.most, .int .i64 y.1.credit, .int .i64 y.1.state, .int .i64 y.1.sq, .int .i64 y.1.peer, .int .i64 y.1.cc, .int .i64 y.1.ms, .string y.1.data]) := Blk.drew hoq4_2OC
  have HBOR4 : Hid (Blk ((((((((((((((w3.setCell ⟨g + 1, 0, none⟩ (.int .i64 y.1.most)).setCell ⟨g + 1, 1, none⟩ (.int .i64 y.1.credit)).setCell ⟨g + 1, 2, none⟩ (.int .i64 y.1.state)).setCell ⟨g + 1, 3, none⟩ (.int .i64 y.1.sq)).setCell ⟨g + 1, 4, none⟩ (.int .i64 y.1.peer)).setCell ⟨g + 1, 5, none⟩ (.int .i64 y.1.cc)).setCell ⟨g + 1, 6, none⟩ (.int .i64 y.1.ms)).setCell ⟨g + 1, 7, none⟩ (.string y.1.data)).setCell ⟨g + 1 + 1, 0, none⟩ (.slice P2.A1 y.2.sigs.length P2.c1)).setCell ⟨g + 1 + 1, 1, none⟩ (.slice P2.A2 y.2.units.length P2.c2)).setCell ⟨g + 1 + 1, 2, none⟩ (.bool y.2.begins)).setCell ⟨g + 1 + 1, 3, none⟩ (.bool y.2.ends)).setCell ⟨g + 1 + 1, 4, none⟩ (.int .i64 y.2.ms)).setCell ⟨g + 1 + 1, 5, none⟩ (.int .i64 y.2.timer)).drew (g + 1 + 1) 90 [.slice P2.A1 y.2.sigs.length P2.c1, .slice P2.A2 y.2.units.length P2.c2, .bool y.2.begins, .bool y.2.ends, .int .i64 y.2.ms, .int .i64 y.2.timer]) := Blk.drew hbq4_2
  have HBR4 : Hid (Blk ((((((((((((((w3.setCell ⟨g + 1, 0, none⟩ (.int .i64 y.1.most)).setCell ⟨g + 1, 1, none⟩ (.int .i64 y.1.credit)).setCell ⟨g + 1, 2, none⟩ (.int .i64 y.1.state)).setCell ⟨g + 1, 3, none⟩ (.int .i64 y.1.sq)).setCell ⟨g + 1, 4, none⟩ (.int .i64 y.1.peer)).setCell ⟨g + 1, 5, none⟩ (.int .i64 y.1.cc)).setCell ⟨g + 1, 6, none⟩ (.int .i64 y.1.ms)).setCell ⟨g + 1, 7, none⟩ (.string y.1.data)).setCell ⟨g + 1 + 1, 0, none⟩ (.slice P2.A1 y.2.sigs.length P2.c1)).setCell ⟨g + 1 + 1, 1, none⟩ (.slice P2.A2 y.2.units.length P2.c2)).setCell ⟨g + 1 + 1, 2, none⟩ (.bool y.2.begins)).setCell ⟨g + 1 + 1, 3, none⟩ (.bool y.2.ends)).setCell ⟨g + 1 + 1, 4, none⟩ (.int .i64 y.2.ms)).setCell ⟨g + 1 + 1, 5, none⟩ (.int .i64 y.2.timer)).drew (g + 1 + 1 + 1) 90 [.slice P2.A1 y.2.sigs.length P2.c1, .slice P2.A2 y.2.units.length P2.c2, .bool y.2.begins, .bool y.2.ends, .int .i64 y.2.ms, .int .i64 y.2.timer]) := Blk.drew hoq4_2R
  have HR4 := Lib.hid (RIn.old hrq4_2 (Touch.refl _ ((((((((((((((w3.setCell ⟨g + 1, 0, none⟩ (.int .i64 y.1.most)).setCell ⟨g + 1, 1, none⟩ (.int .i64 y.1.credit)).setCell ⟨g + 1, 2, none⟩ (.int .i64 y.1.state)).setCell ⟨g + 1, 3, none⟩ (.int .i64 y.1.sq)).setCell ⟨g + 1, 4, none⟩ (.int .i64 y.1.peer)).setCell ⟨g + 1, 5, none⟩ (.int .i64 y.1.cc)).setCell ⟨g + 1, 6, none⟩ (.int .i64 y.1.ms)).setCell ⟨g + 1, 7, none⟩ (.string y.1.data)).setCell ⟨g + 1 + 1, 0, none⟩ (.slice P2.A1 y.2.sigs.length P2.c1)).setCell ⟨g + 1 + 1, 1, none⟩ (.slice P2.A2 y.2.units.length P2.c2)).setCell ⟨g + 1 + 1, 2, none⟩ (.bool y.2.begins)).setCell ⟨g + 1 + 1, 3, none⟩ (.bool y.2.ends)).setCell ⟨g + 1 + 1, 4, none⟩ (.int .i64 y.2.ms)).setCell ⟨g + 1 + 1, 5, none⟩ (.int .i64 y.2.timer))).drew)
  have HT4 : Hid (Touch (OfAct K) w ((((((((((((((w3.setCell ⟨g + 1, 0, none⟩ (.int .i64 y.1.most)).setCell ⟨g + 1, 1, none⟩ (.int .i64 y.1.credit)).setCell ⟨g + 1, 2, none⟩ (.int .i64 y.1.state)).setCell ⟨g + 1, 3, none⟩ (.int .i64 y.1.sq)).setCell ⟨g + 1, 4, none⟩ (.int .i64 y.1.peer)).setCell ⟨g + 1, 5, none⟩ (.int .i64 y.1.cc)).setCell ⟨g + 1, 6, none⟩ (.int .i64 y.1.ms)).setCell ⟨g + 1, 7, none⟩ (.string y.1.data)).setCell ⟨g + 1 + 1, 0, none⟩ (.slice P2.A1 y.2.sigs.length P2.c1)).setCell ⟨g + 1 + 1, 1, none⟩ (.slice P2.A2 y.2.units.length P2.c2)).setCell ⟨g + 1 + 1, 2, none⟩ (.bool y.2.begins)).setCell ⟨g + 1 + 1, 3, none⟩ (.bool y.2.ends)).setCell ⟨g + 1 + 1, 4, none⟩ (.int .i64 y.2.ms)).setCell ⟨g + 1 + 1, 5, none⟩ (.int .i64 y.2.timer)).drew) := Touch.drew hTq4_2
  clear HBC3 HBOC3 HBOR3 HBR3 HR3 HT3 htq4_1 hbq4_1 hrq4_1 hTq4_1 hoq4_1C hoq4_1OR hoq4_1R htq4_2 hbq4_2 hrq4_2 hTq4_2 hoq4_2C hoq4_2OC hoq4_2R
  generalize ((((((((((((((w3.setCell ⟨g + 1, 0, none⟩ (.int .i64 y.1.most)).setCell ⟨g + 1, 1, none⟩ (.int .i64 y.1.credit)).setCell ⟨g + 1, 2, none⟩ (.int .i64 y.1.state)).setCell ⟨g + 1, 3, none⟩ (.int .i64 y.1.sq)).setCell ⟨g + 1, 4, none⟩ (.int .i64 y.1.peer)).setCell ⟨g + 1, 5, none⟩ (.int .i64 y.1.cc)).setCell ⟨g + 1, 6, none⟩ (.int .i64 y.1.ms)).setCell ⟨g + 1, 7, none⟩ (.string y.1.data)).setCell ⟨g + 1 + 1, 0, none⟩ (.slice P2.A1 y.2.sigs.length P2.c1)).setCell ⟨g + 1 + 1, 1, none⟩ (.slice P2.A2 y.2.units.length P2.c2)).setCell ⟨g + 1 + 1, 2, none⟩ (.bool y.2.begins)).setCell ⟨g + 1 + 1, 3, none⟩ (.bool y.2.ends)).setCell ⟨g + 1 + 1, 4, none⟩ (.int .i64 y.2.ms)).setCell ⟨g + 1 + 1, 5, none⟩ (.int .i64 y.2.timer)).drew = w4 at *
  have HX : Hid (∀ e, e = .returned (.tuple #[.agg #[.int .i64 y.1.most, .int .i64 y.1.credit, .int .i64 y.1.state, .int .i64 y.1.sq, .int .i64 y.1.peer, .int .i64 y.1.cc, .int .i64 y.1.ms, .string y.1.data], .agg #[.slice P2.A1 y.2.sigs.length P2.c1, .slice P2.A2 y.2.units.length P2.c2, .bool y.2.begins, .bool y.2.ends, .int .i64 y.2.ms, .int .i64 y.2.timer], .int .i64 0]) → RPost3 K (0 + 9) (Cn.ask (s, Cn.r0) 4 d) (0) w e w4) := fun e he => ⟨P2, he.trans (by (rw [HAE.out]; rfl)), by (refine ((HR4.out.less HL.out).wide (by omega)).eq ?_ ?_ <;> (rw [HAE.out])), HT4.out⟩
  have zOC0 : w4.cell? ⟨g + 1, 0, none⟩ = some (.int .i64 y.1.most) := HBOC4.out.cell 0
  have zOC1 : w4.cell? ⟨g + 1, 1, none⟩ = some (.int .i64 y.1.credit) := HBOC4.out.cell 1
  have zOC2 : w4.cell? ⟨g + 1, 2, none⟩ = some (.int .i64 y.1.state) := HBOC4.out.cell 2
  have zOC3 : w4.cell? ⟨g + 1, 3, none⟩ = some (.int .i64 y.1.sq) := HBOC4.out.cell 3
  have zOC4 : w4.cell? ⟨g + 1, 4, none⟩ = some (.int .i64 y.1.peer) := HBOC4.out.cell 4
  have zOC5 : w4.cell? ⟨g + 1, 5, none⟩ = some (.int .i64 y.1.cc) := HBOC4.out.cell 5
  have zOC6 : w4.cell? ⟨g + 1, 6, none⟩ = some (.int .i64 y.1.ms) := HBOC4.out.cell 6
  have zOC7 : w4.cell? ⟨g + 1, 7, none⟩ = some (.string y.1.data) := HBOC4.out.cell 7
  have zOR0 : w4.cell? ⟨g + 1 + 1, 0, none⟩ = some (.slice P2.A1 y.2.sigs.length P2.c1) := HBOR4.out.cell 0
  have zOR1 : w4.cell? ⟨g + 1 + 1, 1, none⟩ = some (.slice P2.A2 y.2.units.length P2.c2) := HBOR4.out.cell 1
  have zOR2 : w4.cell? ⟨g + 1 + 1, 2, none⟩ = some (.bool y.2.begins) := HBOR4.out.cell 2
  have zOR3 : w4.cell? ⟨g + 1 + 1, 3, none⟩ = some (.bool y.2.ends) := HBOR4.out.cell 3
  have zOR4 : w4.cell? ⟨g + 1 + 1, 4, none⟩ = some (.int .i64 y.2.ms) := HBOR4.out.cell 4
  have zOR5 : w4.cell? ⟨g + 1 + 1, 5, none⟩ = some (.int .i64 y.2.timer) := HBOR4.out.cell 5
  go_wp2
  exact bodyPost_ret (v := _) (by simp [results, Try.results53, go_sem, zOC0, zOC1, zOC2, zOC3, zOC4, zOC5, zOC6, zOC7, zOR0, zOR1, zOR2, zOR3, zOR4, zOR5]) rfl (HX.out _ rfl)
end Go.Proofs.Ytkmegkjkbalooaa
