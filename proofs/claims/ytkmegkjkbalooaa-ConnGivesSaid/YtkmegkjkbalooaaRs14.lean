/-
  polliwogref14.Receive: (not Receive:) Fail, New.
-/
import Derived.Test.YtkmegkjkbalooaaRi14
import Derived.Test.YtkmegkjkbalooaaR01
import Derived.RegionTactic
import Derived.ChangeAlike
import Derived.Deep.RegionLaw
import Derived.Deep.QuietTactic
import Derived.BigQuiet
import Derived.StillTailTactics
import Derived.Deep.DeepCutAuto
import Derived.Deep.CutBlock
namespace Go.Proofs.Ytkmegkjkbalooaa
open Go.RowKit

theorem rbegin_q {K : Nat → Prop} {n : Nat} {w : World} {P : RP} {s : Cn.S} {r : Cn.R} {y : Cn.SR} (h : RIn K n w P r) (hn : n ≤ 90) (hq : 0 ≤ s.sq ∧ s.sq ≤ 255) (kind st : Int) (d : ByteArray) (hk : Cn.akind st = kind) (hy : Cn.begin_ (s, r) st d = y) : Calls Try.prog 66 #[rcV s, rrV P r, .int .i64 kind, .int .i64 st, .string d] w (RPost K (n + 1) y w) := hy ▸ rbegin_any h hn hq kind st d hk

set_option maxHeartbeats 4000000 in
set_option maxRecDepth 100000 in
theorem rfail_y {K : Nat → Prop} {w : World} {s : Cn.S} (hlim : ∀ k, K k → k < w.heap.size) (code : Int) (hq : 0 ≤ s.sq ∧ s.sq ≤ 255) (ht : s.state = 10) :
    Calls Try.prog 56 #[rcV s, .int .u8 code] w (RPost K 9 (Cn.failS s code) w) := by
  unfold rcV
  have HTN := Lib.hid ht
  have HQ := Lib.hid hq
  have h := RIn.nil (w := w) hlim
  obtain ⟨w1, q0⟩ : ∃ x : World, x = (((w.alloc (.cells #[.int .i64 s.most, .int .i64 s.credit, .int .i64 s.state, .int .i64 s.sq, .int .i64 s.peer, .int .i64 s.cc, .int .i64 s.ms, .string s.data] 59)).alloc (.cells #[.int .i64 0, .int .i64 0, .int .i64 0, .int .i64 0, .int .i64 0, .int .i64 0, .int .i64 0, .string { data := #[] }] 59)).alloc (.cells #[.slice none 0 0, .slice none 0 0, .bool false, .bool false, .int .i64 0, .int .i64 0] 90)) := ⟨_, rfl⟩
  have q_w1 := Lib.hid q0
  clear q0
  have HF : Hid (Fresh w w1) := by rw [q_w1.out]; exact (((Touch.refl _ w).alloc _).alloc _).alloc _
  have HBC1 : Hid (Blk w1 (w.heap.size) 59 [.int .i64 s.most, .int .i64 s.credit, .int .i64 s.state, .int .i64 s.sq, .int .i64 s.peer, .int .i64 s.cc, .int .i64 s.ms, .string s.data]) := by
    rw [q_w1.out]
    have := ((Blk.new w 59 [.int .i64 s.most, .int .i64 s.credit, .int .i64 s.state, .int .i64 s.sq, .int .i64 s.peer, .int .i64 s.cc, .int .i64 s.ms, .string s.data]).alloc (.cells #[.int .i64 0, .int .i64 0, .int .i64 0, .int .i64 0, .int .i64 0, .int .i64 0, .int .i64 0, .string { data := #[] }] 59)).alloc (.cells #[.slice none 0 0, .slice none 0 0, .bool false, .bool false, .int .i64 0, .int .i64 0] 90)
    exact this
  have HGC : Hid (Kept K w w1 (w.heap.size)) := by rw [q_w1.out]; exact .inr ⟨by omega, by simp; try omega⟩
  have HBOC1 : Hid (Blk w1 (w.heap.size + 1) 59 [.int .i64 0, .int .i64 0, .int .i64 0, .int .i64 0, .int .i64 0, .int .i64 0, .int .i64 0, .string { data := #[] }]) := by
    rw [q_w1.out]
    have := (Blk.new (w.alloc (.cells #[.int .i64 s.most, .int .i64 s.credit, .int .i64 s.state, .int .i64 s.sq, .int .i64 s.peer, .int .i64 s.cc, .int .i64 s.ms, .string s.data] 59)) 59 [.int .i64 0, .int .i64 0, .int .i64 0, .int .i64 0, .int .i64 0, .int .i64 0, .int .i64 0, .string { data := #[] }]).alloc (.cells #[.slice none 0 0, .slice none 0 0, .bool false, .bool false, .int .i64 0, .int .i64 0] 90)
    rwa [show (w.alloc (.cells #[.int .i64 s.most, .int .i64 s.credit, .int .i64 s.state, .int .i64 s.sq, .int .i64 s.peer, .int .i64 s.cc, .int .i64 s.ms, .string s.data] 59)).heap.size = w.heap.size + 1 by simp] at this
  have HGOC : Hid (Kept K w w1 (w.heap.size + 1)) := by rw [q_w1.out]; exact .inr ⟨by omega, by simp; try omega⟩
  have HBOR1 : Hid (Blk w1 (w.heap.size + 1 + 1) 90 [.slice none 0 0, .slice none 0 0, .bool false, .bool false, .int .i64 0, .int .i64 0]) := by
    rw [q_w1.out]
    have := Blk.new ((w.alloc (.cells #[.int .i64 s.most, .int .i64 s.credit, .int .i64 s.state, .int .i64 s.sq, .int .i64 s.peer, .int .i64 s.cc, .int .i64 s.ms, .string s.data] 59)).alloc (.cells #[.int .i64 0, .int .i64 0, .int .i64 0, .int .i64 0, .int .i64 0, .int .i64 0, .int .i64 0, .string { data := #[] }] 59)) 90 [.slice none 0 0, .slice none 0 0, .bool false, .bool false, .int .i64 0, .int .i64 0]
    rwa [show ((w.alloc (.cells #[.int .i64 s.most, .int .i64 s.credit, .int .i64 s.state, .int .i64 s.sq, .int .i64 s.peer, .int .i64 s.cc, .int .i64 s.ms, .string s.data] 59)).alloc (.cells #[.int .i64 0, .int .i64 0, .int .i64 0, .int .i64 0, .int .i64 0, .int .i64 0, .int .i64 0, .string { data := #[] }] 59)).heap.size = w.heap.size + 1 + 1 by simp] at this
  have HGOR : Hid (Kept K w w1 (w.heap.size + 1 + 1)) := by rw [q_w1.out]; exact .inr ⟨by omega, by simp; try omega⟩
  have HL : Hid (∀ k, K k → Kept K w w1 k) := by rw [q_w1.out]; exact fun k e => .inl e
  have HLIM : Hid (∀ k, K k → k < w.heap.size) := h.lim
  have HR1 := Lib.hid (h.keep HF.out)
  have HT1 : Hid (Touch (OfAct K) w w1) := HF.out.mono (fun _ _ e => e.elim)
  clear h hlim hq ht HF
  go_enter Try.func56, Try.ntmps56
  go_upto_region 1 with (fail)
  rw [← q_w1.out]
  clear q_w1
  generalize Kept K w w1 = K1 at *
  generalize w.heap.size = g at *
  have xC0 : w1.cell? ⟨g, 0, none⟩ = some (.int .i64 s.most) := HBC1.out.cell 0
  have xC1 : w1.cell? ⟨g, 1, none⟩ = some (.int .i64 s.credit) := HBC1.out.cell 1
  have xC2 : w1.cell? ⟨g, 2, none⟩ = some (.int .i64 s.state) := HBC1.out.cell 2
  have xC3 : w1.cell? ⟨g, 3, none⟩ = some (.int .i64 s.sq) := HBC1.out.cell 3
  have xC4 : w1.cell? ⟨g, 4, none⟩ = some (.int .i64 s.peer) := HBC1.out.cell 4
  have xC5 : w1.cell? ⟨g, 5, none⟩ = some (.int .i64 s.cc) := HBC1.out.cell 5
  have xC6 : w1.cell? ⟨g, 6, none⟩ = some (.int .i64 s.ms) := HBC1.out.cell 6
  have xC7 : w1.cell? ⟨g, 7, none⟩ = some (.string s.data) := HBC1.out.cell 7
  have xOC0 : w1.cell? ⟨g + 1, 0, none⟩ = some (.int .i64 0) := HBOC1.out.cell 0
  have fOC0 := HBOC1.out.frozen 0
  have xOC1 : w1.cell? ⟨g + 1, 1, none⟩ = some (.int .i64 0) := HBOC1.out.cell 1
  have fOC1 := HBOC1.out.frozen 1
  have xOC2 : w1.cell? ⟨g + 1, 2, none⟩ = some (.int .i64 0) := HBOC1.out.cell 2
  have fOC2 := HBOC1.out.frozen 2
  have xOC3 : w1.cell? ⟨g + 1, 3, none⟩ = some (.int .i64 0) := HBOC1.out.cell 3
  have fOC3 := HBOC1.out.frozen 3
  have xOC4 : w1.cell? ⟨g + 1, 4, none⟩ = some (.int .i64 0) := HBOC1.out.cell 4
  have fOC4 := HBOC1.out.frozen 4
  have xOC5 : w1.cell? ⟨g + 1, 5, none⟩ = some (.int .i64 0) := HBOC1.out.cell 5
  have fOC5 := HBOC1.out.frozen 5
  have xOC6 : w1.cell? ⟨g + 1, 6, none⟩ = some (.int .i64 0) := HBOC1.out.cell 6
  have fOC6 := HBOC1.out.frozen 6
  have xOC7 : w1.cell? ⟨g + 1, 7, none⟩ = some (.string { data := #[] }) := HBOC1.out.cell 7
  have fOC7 := HBOC1.out.frozen 7
  have xOR0 : w1.cell? ⟨g + 1 + 1, 0, none⟩ = some (.slice none 0 0) := HBOR1.out.cell 0
  have fOR0 := HBOR1.out.frozen 0
  have xOR1 : w1.cell? ⟨g + 1 + 1, 1, none⟩ = some (.slice none 0 0) := HBOR1.out.cell 1
  have fOR1 := HBOR1.out.frozen 1
  have xOR2 : w1.cell? ⟨g + 1 + 1, 2, none⟩ = some (.bool false) := HBOR1.out.cell 2
  have fOR2 := HBOR1.out.frozen 2
  have xOR3 : w1.cell? ⟨g + 1 + 1, 3, none⟩ = some (.bool false) := HBOR1.out.cell 3
  have fOR3 := HBOR1.out.frozen 3
  have xOR4 : w1.cell? ⟨g + 1 + 1, 4, none⟩ = some (.int .i64 0) := HBOR1.out.cell 4
  have fOR4 := HBOR1.out.frozen 4
  have xOR5 : w1.cell? ⟨g + 1 + 1, 5, none⟩ = some (.int .i64 0) := HBOR1.out.cell 5
  have fOR5 := HBOR1.out.frozen 5
  have bt : (s.state != 10) = false := by simpa using HTN.out
  obtain ⟨z, hz⟩ : ∃ q_, { Cn.r0 with sigs := Cn.r0.sigs ++ [(⟨12, ByteArray.empty, false, code, 0⟩ : Cn.Sig)] } = q_ := ⟨_, rfl⟩
  have HZz := Lib.hid hz
  clear hz
  obtain ⟨y, hy⟩ : ∃ q_, Cn.begin_ (s, z) 7 ByteArray.empty = q_ := ⟨_, rfl⟩
  have HZy := Lib.hid hy
  clear hy
  go_wp2
  go_region_law (first
    | (go_simp
       go_at_call 71
       refine (rreport_q (w := w1.drew) (P := RP.nil) (r := Cn.r0) (HR1.out.old (Touch.refl _ w1).drew) (by omega) code HZz.out).mono ?_
       rintro e w2 ⟨Pz, rfl, hr2, ht2⟩
       simp only [rcV, rrV]
       have HBC2 := Lib.hid (ht2.keptB (Blk.drew HBC1.out) HGC.out)
       have HBOC2 := Lib.hid (ht2.keptB (Blk.drew HBOC1.out) HGOC.out)
       have HBOR2 := Lib.hid (ht2.keptB (Blk.drew HBOR1.out) HGOR.out)
       have HR2 := Lib.hid hr2
       have HT2 : Hid (Touch (OfAct K) w w2) := HT1.out.drew.trans (ht2.loose HL.out) (fun _ _ e => e)
       clear hr2 ht2
       have yxC0 : w2.cell? ⟨g, 0, none⟩ = some (.int .i64 s.most) := HBC2.out.cell 0
       have yxC1 : w2.cell? ⟨g, 1, none⟩ = some (.int .i64 s.credit) := HBC2.out.cell 1
       have yxC2 : w2.cell? ⟨g, 2, none⟩ = some (.int .i64 s.state) := HBC2.out.cell 2
       have yxC3 : w2.cell? ⟨g, 3, none⟩ = some (.int .i64 s.sq) := HBC2.out.cell 3
       have yxC4 : w2.cell? ⟨g, 4, none⟩ = some (.int .i64 s.peer) := HBC2.out.cell 4
       have yxC5 : w2.cell? ⟨g, 5, none⟩ = some (.int .i64 s.cc) := HBC2.out.cell 5
       have yxC6 : w2.cell? ⟨g, 6, none⟩ = some (.int .i64 s.ms) := HBC2.out.cell 6
       have yxC7 : w2.cell? ⟨g, 7, none⟩ = some (.string s.data) := HBC2.out.cell 7)
    | (go_simp
       go_at_call 66
       refine (rbegin_q (s := s) (r := z) HR2.out (by omega) HQ.out 9 7 ByteArray.empty rfl HZy.out).mono ?_
       rintro e w3 ⟨Py, rfl, hr3, ht3⟩
       simp only [rcV, rrV]
       have HBC3 := Lib.hid (ht3.keptB HBC2.out HGC.out)
       have HBOC3 := Lib.hid (ht3.keptB HBOC2.out HGOC.out)
       have HBOR3 := Lib.hid (ht3.keptB HBOR2.out HGOR.out)
       have HR3 := Lib.hid hr3
       have HT3 : Hid (Touch (OfAct K) w w3) := HT2.out.trans (ht3.loose HL.out) (fun _ _ e => e)
       clear hr3 ht3
       have zxOC0 : w3.cell? ⟨g + 1, 0, none⟩ = some (.int .i64 0) := HBOC3.out.cell 0
       have zfOC0 := HBOC3.out.frozen 0
       have zxOC1 : w3.cell? ⟨g + 1, 1, none⟩ = some (.int .i64 0) := HBOC3.out.cell 1
       have zfOC1 := HBOC3.out.frozen 1
       have zxOC2 : w3.cell? ⟨g + 1, 2, none⟩ = some (.int .i64 0) := HBOC3.out.cell 2
       have zfOC2 := HBOC3.out.frozen 2
       have zxOC3 : w3.cell? ⟨g + 1, 3, none⟩ = some (.int .i64 0) := HBOC3.out.cell 3
       have zfOC3 := HBOC3.out.frozen 3
       have zxOC4 : w3.cell? ⟨g + 1, 4, none⟩ = some (.int .i64 0) := HBOC3.out.cell 4
       have zfOC4 := HBOC3.out.frozen 4
       have zxOC5 : w3.cell? ⟨g + 1, 5, none⟩ = some (.int .i64 0) := HBOC3.out.cell 5
       have zfOC5 := HBOC3.out.frozen 5
       have zxOC6 : w3.cell? ⟨g + 1, 6, none⟩ = some (.int .i64 0) := HBOC3.out.cell 6
       have zfOC6 := HBOC3.out.frozen 6
       have zxOC7 : w3.cell? ⟨g + 1, 7, none⟩ = some (.string { data := #[] }) := HBOC3.out.cell 7
       have zfOC7 := HBOC3.out.frozen 7
       have zxOR0 : w3.cell? ⟨g + 1 + 1, 0, none⟩ = some (.slice none 0 0) := HBOR3.out.cell 0
       have zfOR0 := HBOR3.out.frozen 0
       have zxOR1 : w3.cell? ⟨g + 1 + 1, 1, none⟩ = some (.slice none 0 0) := HBOR3.out.cell 1
       have zfOR1 := HBOR3.out.frozen 1
       have zxOR2 : w3.cell? ⟨g + 1 + 1, 2, none⟩ = some (.bool false) := HBOR3.out.cell 2
       have zfOR2 := HBOR3.out.frozen 2
       have zxOR3 : w3.cell? ⟨g + 1 + 1, 3, none⟩ = some (.bool false) := HBOR3.out.cell 3
       have zfOR3 := HBOR3.out.frozen 3
       have zxOR4 : w3.cell? ⟨g + 1 + 1, 4, none⟩ = some (.int .i64 0) := HBOR3.out.cell 4
       have zfOR4 := HBOR3.out.frozen 4
       have zxOR5 : w3.cell? ⟨g + 1 + 1, 5, none⟩ = some (.int .i64 0) := HBOR3.out.cell 5
       have zfOR5 := HBOR3.out.frozen 5))
  all_goals
    have htq4_1 : Touch (· = g + 1) w3 ((((((((w3.setCell ⟨g + 1, 0, none⟩ (.int .i64 y.1.most)).setCell ⟨g + 1, 1, none⟩ (.int .i64 y.1.credit)).setCell ⟨g + 1, 2, none⟩ (.int .i64 y.1.state)).setCell ⟨g + 1, 3, none⟩ (.int .i64 y.1.sq)).setCell ⟨g + 1, 4, none⟩ (.int .i64 y.1.peer)).setCell ⟨g + 1, 5, none⟩ (.int .i64 y.1.cc)).setCell ⟨g + 1, 6, none⟩ (.int .i64 y.1.ms)).setCell ⟨g + 1, 7, none⟩ (.string y.1.data)) := (((((((((Touch.refl _ w3).st (S := (· = g + 1)) (u := .int .i64 y.1.most) (by exact rfl)).st (S := (· = g + 1)) (u := .int .i64 y.1.credit) (by exact rfl)).st (S := (· = g + 1)) (u := .int .i64 y.1.state) (by exact rfl)).st (S := (· = g + 1)) (u := .int .i64 y.1.sq) (by exact rfl)).st (S := (· = g + 1)) (u := .int .i64 y.1.peer) (by exact rfl)).st (S := (· = g + 1)) (u := .int .i64 y.1.cc) (by exact rfl)).st (S := (· = g + 1)) (u := .int .i64 y.1.ms) (by exact rfl)).st (S := (· = g + 1)) (u := .string y.1.data) (by exact rfl))
    have hbq4_1 : Blk ((((((((w3.setCell ⟨g + 1, 0, none⟩ (.int .i64 y.1.most)).setCell ⟨g + 1, 1, none⟩ (.int .i64 y.1.credit)).setCell ⟨g + 1, 2, none⟩ (.int .i64 y.1.state)).setCell ⟨g + 1, 3, none⟩ (.int .i64 y.1.sq)).setCell ⟨g + 1, 4, none⟩ (.int .i64 y.1.peer)).setCell ⟨g + 1, 5, none⟩ (.int .i64 y.1.cc)).setCell ⟨g + 1, 6, none⟩ (.int .i64 y.1.ms)).setCell ⟨g + 1, 7, none⟩ (.string y.1.data)) (g + 1) 59 [.int .i64 y.1.most, .int .i64 y.1.credit, .int .i64 y.1.state, .int .i64 y.1.sq, .int .i64 y.1.peer, .int .i64 y.1.cc, .int .i64 y.1.ms, .string y.1.data] := ((((((((HBOC3.out.set 0 (.int .i64 y.1.most)).set 1 (.int .i64 y.1.credit)).set 2 (.int .i64 y.1.state)).set 3 (.int .i64 y.1.sq)).set 4 (.int .i64 y.1.peer)).set 5 (.int .i64 y.1.cc)).set 6 (.int .i64 y.1.ms)).set 7 (.string y.1.data))
    have hoq4_1C := htq4_1.blk HBC3.out (by intro e; have e : g = g + 1 := e; omega)
    have hoq4_1OR := htq4_1.blk HBOR3.out (by intro e; have e : g + 1 + 1 = g + 1 := e; omega)
    have hrq4_1 := HR3.out.touch htq4_1 (fun k e => by have e : k = g + 1 := e; rw [e]; exact HGOC.out)
    have hTq4_1 : Touch (OfAct K) w ((((((((w3.setCell ⟨g + 1, 0, none⟩ (.int .i64 y.1.most)).setCell ⟨g + 1, 1, none⟩ (.int .i64 y.1.credit)).setCell ⟨g + 1, 2, none⟩ (.int .i64 y.1.state)).setCell ⟨g + 1, 3, none⟩ (.int .i64 y.1.sq)).setCell ⟨g + 1, 4, none⟩ (.int .i64 y.1.peer)).setCell ⟨g + 1, 5, none⟩ (.int .i64 y.1.cc)).setCell ⟨g + 1, 6, none⟩ (.int .i64 y.1.ms)).setCell ⟨g + 1, 7, none⟩ (.string y.1.data)) := HT3.out.trans htq4_1 (fun k _ e => by have e : k = g + 1 := e; intro hk; have := HLIM.out k hk; omega)
    obtain ⟨w4, q0⟩ : ∃ x : World, x = ((((((((((((((w3.setCell ⟨g + 1, 0, none⟩ (.int .i64 y.1.most)).setCell ⟨g + 1, 1, none⟩ (.int .i64 y.1.credit)).setCell ⟨g + 1, 2, none⟩ (.int .i64 y.1.state)).setCell ⟨g + 1, 3, none⟩ (.int .i64 y.1.sq)).setCell ⟨g + 1, 4, none⟩ (.int .i64 y.1.peer)).setCell ⟨g + 1, 5, none⟩ (.int .i64 y.1.cc)).setCell ⟨g + 1, 6, none⟩ (.int .i64 y.1.ms)).setCell ⟨g + 1, 7, none⟩ (.string y.1.data)).setCell ⟨g + 1 + 1, 0, none⟩ (.slice Py.A1 y.2.sigs.length Py.c1)).setCell ⟨g + 1 + 1, 1, none⟩ (.slice Py.A2 y.2.units.length Py.c2)).setCell ⟨g + 1 + 1, 2, none⟩ (.bool y.2.begins)).setCell ⟨g + 1 + 1, 3, none⟩ (.bool y.2.ends)).setCell ⟨g + 1 + 1, 4, none⟩ (.int .i64 y.2.ms)).setCell ⟨g + 1 + 1, 5, none⟩ (.int .i64 y.2.timer)) := ⟨_, rfl⟩
    have q_w4 := Lib.hid q0
    clear q0
    have htq4_2 : Touch (· = g + 1 + 1) ((((((((w3.setCell ⟨g + 1, 0, none⟩ (.int .i64 y.1.most)).setCell ⟨g + 1, 1, none⟩ (.int .i64 y.1.credit)).setCell ⟨g + 1, 2, none⟩ (.int .i64 y.1.state)).setCell ⟨g + 1, 3, none⟩ (.int .i64 y.1.sq)).setCell ⟨g + 1, 4, none⟩ (.int .i64 y.1.peer)).setCell ⟨g + 1, 5, none⟩ (.int .i64 y.1.cc)).setCell ⟨g + 1, 6, none⟩ (.int .i64 y.1.ms)).setCell ⟨g + 1, 7, none⟩ (.string y.1.data)) w4 := by rw [q_w4.out]; exact (((((((Touch.refl _ ((((((((w3.setCell ⟨g + 1, 0, none⟩ (.int .i64 y.1.most)).setCell ⟨g + 1, 1, none⟩ (.int .i64 y.1.credit)).setCell ⟨g + 1, 2, none⟩ (.int .i64 y.1.state)).setCell ⟨g + 1, 3, none⟩ (.int .i64 y.1.sq)).setCell ⟨g + 1, 4, none⟩ (.int .i64 y.1.peer)).setCell ⟨g + 1, 5, none⟩ (.int .i64 y.1.cc)).setCell ⟨g + 1, 6, none⟩ (.int .i64 y.1.ms)).setCell ⟨g + 1, 7, none⟩ (.string y.1.data))).st (S := (· = g + 1 + 1)) (u := .slice Py.A1 y.2.sigs.length Py.c1) (by exact rfl)).st (S := (· = g + 1 + 1)) (u := .slice Py.A2 y.2.units.length Py.c2) (by exact rfl)).st (S := (· = g + 1 + 1)) (u := .bool y.2.begins) (by exact rfl)).st (S := (· = g + 1 + 1)) (u := .bool y.2.ends) (by exact rfl)).st (S := (· = g + 1 + 1)) (u := .int .i64 y.2.ms) (by exact rfl)).st (S := (· = g + 1 + 1)) (u := .int .i64 y.2.timer) (by exact rfl))
    have hbq4_2 : Blk w4 (g + 1 + 1) 90 [.slice Py.A1 y.2.sigs.length Py.c1, .slice Py.A2 y.2.units.length Py.c2, .bool y.2.begins, .bool y.2.ends, .int .i64 y.2.ms, .int .i64 y.2.timer] := by rw [q_w4.out]; exact ((((((hoq4_1OR.set 0 (.slice Py.A1 y.2.sigs.length Py.c1)).set 1 (.slice Py.A2 y.2.units.length Py.c2)).set 2 (.bool y.2.begins)).set 3 (.bool y.2.ends)).set 4 (.int .i64 y.2.ms)).set 5 (.int .i64 y.2.timer))
    have hoq4_2C := htq4_2.blk hoq4_1C (by intro e; have e : g = g + 1 + 1 := e; omega)
    have hoq4_2OC := htq4_2.blk hbq4_1 (by intro e; have e : g + 1 = g + 1 + 1 := e; omega)
    have hrq4_2 := hrq4_1.touch htq4_2 (fun k e => by have e : k = g + 1 + 1 := e; rw [e]; exact HGOR.out)
    have hTq4_2 : Touch (OfAct K) w w4 := hTq4_1.trans htq4_2 (fun k _ e => by have e : k = g + 1 + 1 := e; intro hk; have := HLIM.out k hk; omega)
    clear xC0 xC1 xC2 xC3 xC4 xC5 xC6 xC7 xOC0 fOC0 xOC1 fOC1 xOC2 fOC2 xOC3 fOC3 xOC4 fOC4 xOC5 fOC5 xOC6 fOC6 xOC7 fOC7 xOR0 fOR0 xOR1 fOR1 xOR2 fOR2 xOR3 fOR3 xOR4 fOR4 xOR5 fOR5 yxC0 yxC1 yxC2 yxC3 yxC4 yxC5 yxC6 yxC7 zxOC0 zfOC0 zxOC1 zfOC1 zxOC2 zfOC2 zxOC3 zfOC3 zxOC4 zfOC4 zxOC5 zfOC5 zxOC6 zfOC6 zxOC7 zfOC7 zxOR0 zfOR0 zxOR1 zfOR1 zxOR2 zfOR2 zxOR3 zfOR3 zxOR4 zfOR4 zxOR5 zfOR5
    have HBC4 : Hid (Blk w4 (g) 59 [.int .i64 s.most, .int .i64 s.credit, .int .i64 s.state, .int .i64 s.sq, .int .i64 s.peer, .int .i64 s.cc, .int .i64 s.ms, .string s.data]) := hoq4_2C
    have HBOC4 : Hid (Blk w4 (g + 1) 59 [.int .i64 y.1.most, .int .i64 y.1.credit, .int .i64 y.1.state, .int .i64 y.1.sq, .int .i64 y.1.peer, .int .i64 y.1.cc, .int .i64 y.1.ms, .string y.1.data]) := hoq4_2OC
    have HBOR4 : Hid (Blk w4 (g + 1 + 1) 90 [.slice Py.A1 y.2.sigs.length Py.c1, .slice Py.A2 y.2.units.length Py.c2, .bool y.2.begins, .bool y.2.ends, .int .i64 y.2.ms, .int .i64 y.2.timer]) := hbq4_2
    have HR4 := Lib.hid hrq4_2
    have HT4 : Hid (Touch (OfAct K) w w4) := hTq4_2
    clear HBC3 HBOC3 HBOR3 HR3 HT3 htq4_1 hbq4_1 hrq4_1 hTq4_1 hoq4_1C hoq4_1OR htq4_2 hbq4_2 hrq4_2 hTq4_2 hoq4_2C hoq4_2OC
    rw [← q_w4.out]
    clear q_w4
    have HAE : Hid (Cn.failS s code = y) := by unfold Hid Cn.failS; rw [if_pos HTN.out, ← HZy.out, ← HZz.out]; rfl
    have HX : Hid (∀ e, e = .returned (.tuple #[.agg #[.int .i64 y.1.most, .int .i64 y.1.credit, .int .i64 y.1.state, .int .i64 y.1.sq, .int .i64 y.1.peer, .int .i64 y.1.cc, .int .i64 y.1.ms, .string y.1.data], .agg #[.slice Py.A1 y.2.sigs.length Py.c1, .slice Py.A2 y.2.units.length Py.c2, .bool y.2.begins, .bool y.2.ends, .int .i64 y.2.ms, .int .i64 y.2.timer]]) → RPost K (0 + 9) (Cn.failS s code) w e w4) := fun e he => ⟨Py, he.trans (by (rw [HAE.out]; rfl)), by (refine ((HR4.out.less HL.out).wide (by omega)).eq ?_ ?_ <;> (rw [HAE.out])), HT4.out⟩
    have zOC0 : w4.cell? ⟨g + 1, 0, none⟩ = some (.int .i64 y.1.most) := HBOC4.out.cell 0
    have zOC1 : w4.cell? ⟨g + 1, 1, none⟩ = some (.int .i64 y.1.credit) := HBOC4.out.cell 1
    have zOC2 : w4.cell? ⟨g + 1, 2, none⟩ = some (.int .i64 y.1.state) := HBOC4.out.cell 2
    have zOC3 : w4.cell? ⟨g + 1, 3, none⟩ = some (.int .i64 y.1.sq) := HBOC4.out.cell 3
    have zOC4 : w4.cell? ⟨g + 1, 4, none⟩ = some (.int .i64 y.1.peer) := HBOC4.out.cell 4
    have zOC5 : w4.cell? ⟨g + 1, 5, none⟩ = some (.int .i64 y.1.cc) := HBOC4.out.cell 5
    have zOC6 : w4.cell? ⟨g + 1, 6, none⟩ = some (.int .i64 y.1.ms) := HBOC4.out.cell 6
    have zOC7 : w4.cell? ⟨g + 1, 7, none⟩ = some (.string y.1.data) := HBOC4.out.cell 7
    have zOR0 : w4.cell? ⟨g + 1 + 1, 0, none⟩ = some (.slice Py.A1 y.2.sigs.length Py.c1) := HBOR4.out.cell 0
    have zOR1 : w4.cell? ⟨g + 1 + 1, 1, none⟩ = some (.slice Py.A2 y.2.units.length Py.c2) := HBOR4.out.cell 1
    have zOR2 : w4.cell? ⟨g + 1 + 1, 2, none⟩ = some (.bool y.2.begins) := HBOR4.out.cell 2
    have zOR3 : w4.cell? ⟨g + 1 + 1, 3, none⟩ = some (.bool y.2.ends) := HBOR4.out.cell 3
    have zOR4 : w4.cell? ⟨g + 1 + 1, 4, none⟩ = some (.int .i64 y.2.ms) := HBOR4.out.cell 4
    have zOR5 : w4.cell? ⟨g + 1 + 1, 5, none⟩ = some (.int .i64 y.2.timer) := HBOR4.out.cell 5
    go_wp2
    exact bodyPost_ret (v := _) (by simp [results, Try.results56, go_sem, zOC0, zOC1, zOC2, zOC3, zOC4, zOC5, zOC6, zOC7, zOR0, zOR1, zOR2, zOR3, zOR4, zOR5]) rfl (HX.out _ rfl)

set_option maxHeartbeats 4000000 in
set_option maxRecDepth 100000 in
theorem rfail_n {K : Nat → Prop} {w : World} {s : Cn.S} (hlim : ∀ k, K k → k < w.heap.size) (code : Int) (hq : 0 ≤ s.sq ∧ s.sq ≤ 255) (ht : ¬ s.state = 10) :
    Calls Try.prog 56 #[rcV s, .int .u8 code] w (RPost K 9 (Cn.failS s code) w) := by
  unfold rcV
  have HTN := Lib.hid ht
  have HQ := Lib.hid hq
  have h := RIn.nil (w := w) hlim
  obtain ⟨w1, q0⟩ : ∃ x : World, x = (((w.alloc (.cells #[.int .i64 s.most, .int .i64 s.credit, .int .i64 s.state, .int .i64 s.sq, .int .i64 s.peer, .int .i64 s.cc, .int .i64 s.ms, .string s.data] 59)).alloc (.cells #[.int .i64 0, .int .i64 0, .int .i64 0, .int .i64 0, .int .i64 0, .int .i64 0, .int .i64 0, .string { data := #[] }] 59)).alloc (.cells #[.slice none 0 0, .slice none 0 0, .bool false, .bool false, .int .i64 0, .int .i64 0] 90)) := ⟨_, rfl⟩
  have q_w1 := Lib.hid q0
  clear q0
  have HF : Hid (Fresh w w1) := by rw [q_w1.out]; exact (((Touch.refl _ w).alloc _).alloc _).alloc _
  have HBC1 : Hid (Blk w1 (w.heap.size) 59 [.int .i64 s.most, .int .i64 s.credit, .int .i64 s.state, .int .i64 s.sq, .int .i64 s.peer, .int .i64 s.cc, .int .i64 s.ms, .string s.data]) := by
    rw [q_w1.out]
    have := ((Blk.new w 59 [.int .i64 s.most, .int .i64 s.credit, .int .i64 s.state, .int .i64 s.sq, .int .i64 s.peer, .int .i64 s.cc, .int .i64 s.ms, .string s.data]).alloc (.cells #[.int .i64 0, .int .i64 0, .int .i64 0, .int .i64 0, .int .i64 0, .int .i64 0, .int .i64 0, .string { data := #[] }] 59)).alloc (.cells #[.slice none 0 0, .slice none 0 0, .bool false, .bool false, .int .i64 0, .int .i64 0] 90)
    exact this
  have HGC : Hid (Kept K w w1 (w.heap.size)) := by rw [q_w1.out]; exact .inr ⟨by omega, by simp; try omega⟩
  have HBOC1 : Hid (Blk w1 (w.heap.size + 1) 59 [.int .i64 0, .int .i64 0, .int .i64 0, .int .i64 0, .int .i64 0, .int .i64 0, .int .i64 0, .string { data := #[] }]) := by
    rw [q_w1.out]
    have := (Blk.new (w.alloc (.cells #[.int .i64 s.most, .int .i64 s.credit, .int .i64 s.state, .int .i64 s.sq, .int .i64 s.peer, .int .i64 s.cc, .int .i64 s.ms, .string s.data] 59)) 59 [.int .i64 0, .int .i64 0, .int .i64 0, .int .i64 0, .int .i64 0, .int .i64 0, .int .i64 0, .string { data := #[] }]).alloc (.cells #[.slice none 0 0, .slice none 0 0, .bool false, .bool false, .int .i64 0, .int .i64 0] 90)
    rwa [show (w.alloc (.cells #[.int .i64 s.most, .int .i64 s.credit, .int .i64 s.state, .int .i64 s.sq, .int .i64 s.peer, .int .i64 s.cc, .int .i64 s.ms, .string s.data] 59)).heap.size = w.heap.size + 1 by simp] at this
  have HGOC : Hid (Kept K w w1 (w.heap.size + 1)) := by rw [q_w1.out]; exact .inr ⟨by omega, by simp; try omega⟩
  have HBOR1 : Hid (Blk w1 (w.heap.size + 1 + 1) 90 [.slice none 0 0, .slice none 0 0, .bool false, .bool false, .int .i64 0, .int .i64 0]) := by
    rw [q_w1.out]
    have := Blk.new ((w.alloc (.cells #[.int .i64 s.most, .int .i64 s.credit, .int .i64 s.state, .int .i64 s.sq, .int .i64 s.peer, .int .i64 s.cc, .int .i64 s.ms, .string s.data] 59)).alloc (.cells #[.int .i64 0, .int .i64 0, .int .i64 0, .int .i64 0, .int .i64 0, .int .i64 0, .int .i64 0, .string { data := #[] }] 59)) 90 [.slice none 0 0, .slice none 0 0, .bool false, .bool false, .int .i64 0, .int .i64 0]
    rwa [show ((w.alloc (.cells #[.int .i64 s.most, .int .i64 s.credit, .int .i64 s.state, .int .i64 s.sq, .int .i64 s.peer, .int .i64 s.cc, .int .i64 s.ms, .string s.data] 59)).alloc (.cells #[.int .i64 0, .int .i64 0, .int .i64 0, .int .i64 0, .int .i64 0, .int .i64 0, .int .i64 0, .string { data := #[] }] 59)).heap.size = w.heap.size + 1 + 1 by simp] at this
  have HGOR : Hid (Kept K w w1 (w.heap.size + 1 + 1)) := by rw [q_w1.out]; exact .inr ⟨by omega, by simp; try omega⟩
  have HL : Hid (∀ k, K k → Kept K w w1 k) := by rw [q_w1.out]; exact fun k e => .inl e
  have HLIM : Hid (∀ k, K k → k < w.heap.size) := h.lim
  have HR1 := Lib.hid (h.keep HF.out)
  have HT1 : Hid (Touch (OfAct K) w w1) := HF.out.mono (fun _ _ e => e.elim)
  clear h hlim hq ht HF
  go_enter Try.func56, Try.ntmps56
  go_upto_region 1 with (fail)
  rw [← q_w1.out]
  clear q_w1
  generalize Kept K w w1 = K1 at *
  generalize w.heap.size = g at *
  have xC0 : w1.cell? ⟨g, 0, none⟩ = some (.int .i64 s.most) := HBC1.out.cell 0
  have xC1 : w1.cell? ⟨g, 1, none⟩ = some (.int .i64 s.credit) := HBC1.out.cell 1
  have xC2 : w1.cell? ⟨g, 2, none⟩ = some (.int .i64 s.state) := HBC1.out.cell 2
  have xC3 : w1.cell? ⟨g, 3, none⟩ = some (.int .i64 s.sq) := HBC1.out.cell 3
  have xC4 : w1.cell? ⟨g, 4, none⟩ = some (.int .i64 s.peer) := HBC1.out.cell 4
  have xC5 : w1.cell? ⟨g, 5, none⟩ = some (.int .i64 s.cc) := HBC1.out.cell 5
  have xC6 : w1.cell? ⟨g, 6, none⟩ = some (.int .i64 s.ms) := HBC1.out.cell 6
  have xC7 : w1.cell? ⟨g, 7, none⟩ = some (.string s.data) := HBC1.out.cell 7
  have xOC0 : w1.cell? ⟨g + 1, 0, none⟩ = some (.int .i64 0) := HBOC1.out.cell 0
  have fOC0 := HBOC1.out.frozen 0
  have xOC1 : w1.cell? ⟨g + 1, 1, none⟩ = some (.int .i64 0) := HBOC1.out.cell 1
  have fOC1 := HBOC1.out.frozen 1
  have xOC2 : w1.cell? ⟨g + 1, 2, none⟩ = some (.int .i64 0) := HBOC1.out.cell 2
  have fOC2 := HBOC1.out.frozen 2
  have xOC3 : w1.cell? ⟨g + 1, 3, none⟩ = some (.int .i64 0) := HBOC1.out.cell 3
  have fOC3 := HBOC1.out.frozen 3
  have xOC4 : w1.cell? ⟨g + 1, 4, none⟩ = some (.int .i64 0) := HBOC1.out.cell 4
  have fOC4 := HBOC1.out.frozen 4
  have xOC5 : w1.cell? ⟨g + 1, 5, none⟩ = some (.int .i64 0) := HBOC1.out.cell 5
  have fOC5 := HBOC1.out.frozen 5
  have xOC6 : w1.cell? ⟨g + 1, 6, none⟩ = some (.int .i64 0) := HBOC1.out.cell 6
  have fOC6 := HBOC1.out.frozen 6
  have xOC7 : w1.cell? ⟨g + 1, 7, none⟩ = some (.string { data := #[] }) := HBOC1.out.cell 7
  have fOC7 := HBOC1.out.frozen 7
  have xOR0 : w1.cell? ⟨g + 1 + 1, 0, none⟩ = some (.slice none 0 0) := HBOR1.out.cell 0
  have fOR0 := HBOR1.out.frozen 0
  have xOR1 : w1.cell? ⟨g + 1 + 1, 1, none⟩ = some (.slice none 0 0) := HBOR1.out.cell 1
  have fOR1 := HBOR1.out.frozen 1
  have xOR2 : w1.cell? ⟨g + 1 + 1, 2, none⟩ = some (.bool false) := HBOR1.out.cell 2
  have fOR2 := HBOR1.out.frozen 2
  have xOR3 : w1.cell? ⟨g + 1 + 1, 3, none⟩ = some (.bool false) := HBOR1.out.cell 3
  have fOR3 := HBOR1.out.frozen 3
  have xOR4 : w1.cell? ⟨g + 1 + 1, 4, none⟩ = some (.int .i64 0) := HBOR1.out.cell 4
  have fOR4 := HBOR1.out.frozen 4
  have xOR5 : w1.cell? ⟨g + 1 + 1, 5, none⟩ = some (.int .i64 0) := HBOR1.out.cell 5
  have fOR5 := HBOR1.out.frozen 5
  have bt : (s.state != 10) = true := by simpa using HTN.out
  go_wp2
  have htq2_1 : Touch (· = g + 1) w1 ((((((((w1.setCell ⟨g + 1, 0, none⟩ (.int .i64 s.most)).setCell ⟨g + 1, 1, none⟩ (.int .i64 s.credit)).setCell ⟨g + 1, 2, none⟩ (.int .i64 s.state)).setCell ⟨g + 1, 3, none⟩ (.int .i64 s.sq)).setCell ⟨g + 1, 4, none⟩ (.int .i64 s.peer)).setCell ⟨g + 1, 5, none⟩ (.int .i64 s.cc)).setCell ⟨g + 1, 6, none⟩ (.int .i64 s.ms)).setCell ⟨g + 1, 7, none⟩ (.string s.data)) := (((((((((Touch.refl _ w1).st (S := (· = g + 1)) (u := .int .i64 s.most) (by exact rfl)).st (S := (· = g + 1)) (u := .int .i64 s.credit) (by exact rfl)).st (S := (· = g + 1)) (u := .int .i64 s.state) (by exact rfl)).st (S := (· = g + 1)) (u := .int .i64 s.sq) (by exact rfl)).st (S := (· = g + 1)) (u := .int .i64 s.peer) (by exact rfl)).st (S := (· = g + 1)) (u := .int .i64 s.cc) (by exact rfl)).st (S := (· = g + 1)) (u := .int .i64 s.ms) (by exact rfl)).st (S := (· = g + 1)) (u := .string s.data) (by exact rfl))
  have hbq2_1 : Blk ((((((((w1.setCell ⟨g + 1, 0, none⟩ (.int .i64 s.most)).setCell ⟨g + 1, 1, none⟩ (.int .i64 s.credit)).setCell ⟨g + 1, 2, none⟩ (.int .i64 s.state)).setCell ⟨g + 1, 3, none⟩ (.int .i64 s.sq)).setCell ⟨g + 1, 4, none⟩ (.int .i64 s.peer)).setCell ⟨g + 1, 5, none⟩ (.int .i64 s.cc)).setCell ⟨g + 1, 6, none⟩ (.int .i64 s.ms)).setCell ⟨g + 1, 7, none⟩ (.string s.data)) (g + 1) 59 [.int .i64 s.most, .int .i64 s.credit, .int .i64 s.state, .int .i64 s.sq, .int .i64 s.peer, .int .i64 s.cc, .int .i64 s.ms, .string s.data] := ((((((((HBOC1.out.set 0 (.int .i64 s.most)).set 1 (.int .i64 s.credit)).set 2 (.int .i64 s.state)).set 3 (.int .i64 s.sq)).set 4 (.int .i64 s.peer)).set 5 (.int .i64 s.cc)).set 6 (.int .i64 s.ms)).set 7 (.string s.data))
  have hoq2_1C := htq2_1.blk HBC1.out (by intro e; have e : g = g + 1 := e; omega)
  have hoq2_1OR := htq2_1.blk HBOR1.out (by intro e; have e : g + 1 + 1 = g + 1 := e; omega)
  have hrq2_1 := HR1.out.touch htq2_1 (fun k e => by have e : k = g + 1 := e; rw [e]; exact HGOC.out)
  have hTq2_1 : Touch (OfAct K) w ((((((((w1.setCell ⟨g + 1, 0, none⟩ (.int .i64 s.most)).setCell ⟨g + 1, 1, none⟩ (.int .i64 s.credit)).setCell ⟨g + 1, 2, none⟩ (.int .i64 s.state)).setCell ⟨g + 1, 3, none⟩ (.int .i64 s.sq)).setCell ⟨g + 1, 4, none⟩ (.int .i64 s.peer)).setCell ⟨g + 1, 5, none⟩ (.int .i64 s.cc)).setCell ⟨g + 1, 6, none⟩ (.int .i64 s.ms)).setCell ⟨g + 1, 7, none⟩ (.string s.data)) := HT1.out.trans htq2_1 (fun k _ e => by have e : k = g + 1 := e; intro hk; have := HLIM.out k hk; omega)
  obtain ⟨w2, q0⟩ : ∃ x : World, x = ((((((((((((((w1.setCell ⟨g + 1, 0, none⟩ (.int .i64 s.most)).setCell ⟨g + 1, 1, none⟩ (.int .i64 s.credit)).setCell ⟨g + 1, 2, none⟩ (.int .i64 s.state)).setCell ⟨g + 1, 3, none⟩ (.int .i64 s.sq)).setCell ⟨g + 1, 4, none⟩ (.int .i64 s.peer)).setCell ⟨g + 1, 5, none⟩ (.int .i64 s.cc)).setCell ⟨g + 1, 6, none⟩ (.int .i64 s.ms)).setCell ⟨g + 1, 7, none⟩ (.string s.data)).setCell ⟨g + 1 + 1, 0, none⟩ (.slice none 0 0)).setCell ⟨g + 1 + 1, 1, none⟩ (.slice none 0 0)).setCell ⟨g + 1 + 1, 2, none⟩ (.bool false)).setCell ⟨g + 1 + 1, 3, none⟩ (.bool false)).setCell ⟨g + 1 + 1, 4, none⟩ (.int .i64 0)).setCell ⟨g + 1 + 1, 5, none⟩ (.int .i64 0)) := ⟨_, rfl⟩
  have q_w2 := Lib.hid q0
  clear q0
  have htq2_2 : Touch (· = g + 1 + 1) ((((((((w1.setCell ⟨g + 1, 0, none⟩ (.int .i64 s.most)).setCell ⟨g + 1, 1, none⟩ (.int .i64 s.credit)).setCell ⟨g + 1, 2, none⟩ (.int .i64 s.state)).setCell ⟨g + 1, 3, none⟩ (.int .i64 s.sq)).setCell ⟨g + 1, 4, none⟩ (.int .i64 s.peer)).setCell ⟨g + 1, 5, none⟩ (.int .i64 s.cc)).setCell ⟨g + 1, 6, none⟩ (.int .i64 s.ms)).setCell ⟨g + 1, 7, none⟩ (.string s.data)) w2 := by rw [q_w2.out]; exact (((((((Touch.refl _ ((((((((w1.setCell ⟨g + 1, 0, none⟩ (.int .i64 s.most)).setCell ⟨g + 1, 1, none⟩ (.int .i64 s.credit)).setCell ⟨g + 1, 2, none⟩ (.int .i64 s.state)).setCell ⟨g + 1, 3, none⟩ (.int .i64 s.sq)).setCell ⟨g + 1, 4, none⟩ (.int .i64 s.peer)).setCell ⟨g + 1, 5, none⟩ (.int .i64 s.cc)).setCell ⟨g + 1, 6, none⟩ (.int .i64 s.ms)).setCell ⟨g + 1, 7, none⟩ (.string s.data))).st (S := (· = g + 1 + 1)) (u := .slice none 0 0) (by exact rfl)).st (S := (· = g + 1 + 1)) (u := .slice none 0 0) (by exact rfl)).st (S := (· = g + 1 + 1)) (u := .bool false) (by exact rfl)).st (S := (· = g + 1 + 1)) (u := .bool false) (by exact rfl)).st (S := (· = g + 1 + 1)) (u := .int .i64 0) (by exact rfl)).st (S := (· = g + 1 + 1)) (u := .int .i64 0) (by exact rfl))
  have hbq2_2 : Blk w2 (g + 1 + 1) 90 [.slice none 0 0, .slice none 0 0, .bool false, .bool false, .int .i64 0, .int .i64 0] := by rw [q_w2.out]; exact ((((((hoq2_1OR.set 0 (.slice none 0 0)).set 1 (.slice none 0 0)).set 2 (.bool false)).set 3 (.bool false)).set 4 (.int .i64 0)).set 5 (.int .i64 0))
  have hoq2_2C := htq2_2.blk hoq2_1C (by intro e; have e : g = g + 1 + 1 := e; omega)
  have hoq2_2OC := htq2_2.blk hbq2_1 (by intro e; have e : g + 1 = g + 1 + 1 := e; omega)
  have hrq2_2 := hrq2_1.touch htq2_2 (fun k e => by have e : k = g + 1 + 1 := e; rw [e]; exact HGOR.out)
  have hTq2_2 : Touch (OfAct K) w w2 := hTq2_1.trans htq2_2 (fun k _ e => by have e : k = g + 1 + 1 := e; intro hk; have := HLIM.out k hk; omega)
  clear xC0 xC1 xC2 xC3 xC4 xC5 xC6 xC7 xOC0 fOC0 xOC1 fOC1 xOC2 fOC2 xOC3 fOC3 xOC4 fOC4 xOC5 fOC5 xOC6 fOC6 xOC7 fOC7 xOR0 fOR0 xOR1 fOR1 xOR2 fOR2 xOR3 fOR3 xOR4 fOR4 xOR5 fOR5
  have HBC2 : Hid (Blk w2 (g) 59 [.int .i64 s.most, .int .i64 s.credit, .int .i64 s.state, .int .i64 s.sq, .int .i64 s.peer, .int .i64 s.cc, .int .i64 s.ms, .string s.data]) := hoq2_2C
  have HBOC2 : Hid (Blk w2 (g + 1) 59 [.int .i64 s.most, .int .i64 s.credit, .int .i64 s.state, .int .i64 s.sq, .int .i64 s.peer, .int .i64 s.cc, .int .i64 s.ms, .string s.data]) := hoq2_2OC
  have HBOR2 : Hid (Blk w2 (g + 1 + 1) 90 [.slice none 0 0, .slice none 0 0, .bool false, .bool false, .int .i64 0, .int .i64 0]) := hbq2_2
  have HR2 := Lib.hid hrq2_2
  have HT2 : Hid (Touch (OfAct K) w w2) := hTq2_2
  clear HBC1 HBOC1 HBOR1 HR1 HT1 htq2_1 hbq2_1 hrq2_1 hTq2_1 hoq2_1C hoq2_1OR htq2_2 hbq2_2 hrq2_2 hTq2_2 hoq2_2C hoq2_2OC
  rw [← q_w2.out]
  clear q_w2
  have HX : Hid (∀ e, e = .returned (.tuple #[.agg #[.int .i64 s.most, .int .i64 s.credit, .int .i64 s.state, .int .i64 s.sq, .int .i64 s.peer, .int .i64 s.cc, .int .i64 s.ms, .string s.data], .agg #[.slice none 0 0, .slice none 0 0, .bool false, .bool false, .int .i64 0, .int .i64 0]]) → RPost K (0 + 9) (Cn.failS s code) w e w2) := fun e he => ⟨RP.nil, he.trans (by (unfold Cn.failS; rw [if_neg HTN.out]; rfl)), by (refine ((HR2.out.less HL.out).wide (by omega)).eq ?_ ?_ <;> (unfold Cn.failS; rw [if_neg HTN.out])), HT2.out⟩
  have zOC0 : w2.cell? ⟨g + 1, 0, none⟩ = some (.int .i64 s.most) := HBOC2.out.cell 0
  have zOC1 : w2.cell? ⟨g + 1, 1, none⟩ = some (.int .i64 s.credit) := HBOC2.out.cell 1
  have zOC2 : w2.cell? ⟨g + 1, 2, none⟩ = some (.int .i64 s.state) := HBOC2.out.cell 2
  have zOC3 : w2.cell? ⟨g + 1, 3, none⟩ = some (.int .i64 s.sq) := HBOC2.out.cell 3
  have zOC4 : w2.cell? ⟨g + 1, 4, none⟩ = some (.int .i64 s.peer) := HBOC2.out.cell 4
  have zOC5 : w2.cell? ⟨g + 1, 5, none⟩ = some (.int .i64 s.cc) := HBOC2.out.cell 5
  have zOC6 : w2.cell? ⟨g + 1, 6, none⟩ = some (.int .i64 s.ms) := HBOC2.out.cell 6
  have zOC7 : w2.cell? ⟨g + 1, 7, none⟩ = some (.string s.data) := HBOC2.out.cell 7
  have zOR0 : w2.cell? ⟨g + 1 + 1, 0, none⟩ = some (.slice none 0 0) := HBOR2.out.cell 0
  have zOR1 : w2.cell? ⟨g + 1 + 1, 1, none⟩ = some (.slice none 0 0) := HBOR2.out.cell 1
  have zOR2 : w2.cell? ⟨g + 1 + 1, 2, none⟩ = some (.bool false) := HBOR2.out.cell 2
  have zOR3 : w2.cell? ⟨g + 1 + 1, 3, none⟩ = some (.bool false) := HBOR2.out.cell 3
  have zOR4 : w2.cell? ⟨g + 1 + 1, 4, none⟩ = some (.int .i64 0) := HBOR2.out.cell 4
  have zOR5 : w2.cell? ⟨g + 1 + 1, 5, none⟩ = some (.int .i64 0) := HBOR2.out.cell 5
  go_wp2
  exact bodyPost_ret (v := _) (by simp [results, Try.results56, go_sem, zOC0, zOC1, zOC2, zOC3, zOC4, zOC5, zOC6, zOC7, zOR0, zOR1, zOR2, zOR3, zOR4, zOR5]) rfl (HX.out _ rfl)

theorem rnew_any14 (most credit : Int) (w : World) : Calls Try.prog 36 #[.int .i64 most, .int .i64 credit] w fun e w' => e = .returned (rcV (Cn.new most credit)) ∧ Fresh w w' := by
  obtain ⟨m, hm⟩ : ∃ m, (if 16 < most then (16 : Int) else most) = m := ⟨_, rfl⟩
  obtain ⟨M, hM⟩ : ∃ M, (if 1 < m then m else 1) = M := ⟨_, rfl⟩
  have HM : Hid (max 1 (min most 16) = M) := by unfold Hid; rw [← hM, ← hm]; (split <;> (try split) <;> omega)
  have hmin : min most 16 = m := by rw [← hm]; split <;> omega
  have hmax : max 1 m = M := by rw [← hM]; split <;> omega
  have HN : Hid (Cn.new most credit = ⟨M, credit % 16777216, 1, 0, -1, 0, credit % 16777216, Cn.no⟩) := by unfold Hid Cn.new; rw [HM.out]
  go_enter Try.func36, Try.ntmps36
  go_wp2_with fail
  refine (r01of_any credit _).mono ?_
  rintro e w1 ⟨rfl, rfl⟩
  go_wp2
  exact bodyPost_ret (v := .agg #[.int .i64 M, .int .i64 (credit % 16777216), .int .i64 1, .int .i64 0, .int .i64 (-1), .int .i64 0, .int .i64 (credit % 16777216), .string { data := #[] }]) (by simp [results, Try.results36, go_sem]) rfl ⟨by rw [HN.out]; rfl, (Touch.refl _ _).alloc _⟩

theorem rfail_any {K : Nat → Prop} {w : World} {s : Cn.S} (hlim : ∀ k, K k → k < w.heap.size) (code : Int) (hq : 0 ≤ s.sq ∧ s.sq ≤ 255) :
    Calls Try.prog 56 #[rcV s, .int .u8 code] w (RPost K 9 (Cn.failS s code) w) := by
  by_cases h : s.state = 10
  · exact rfail_y hlim code hq h
  · exact rfail_n hlim code hq h
end Go.Proofs.Ytkmegkjkbalooaa
