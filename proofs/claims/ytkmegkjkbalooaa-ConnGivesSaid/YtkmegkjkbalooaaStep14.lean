/-
  polliwoglaw14.Step: a call on both.
-/
import Derived.Test.YtkmegkjkbalooaaRf14p
import Derived.Test.YtkmegkjkbalooaaRs14
import Derived.Test.YtkmegkjkbalooaaUnit14
import Derived.Test.YtkmegkjkbalooaaCnW
import Derived.Deep.RegionHeld3
namespace Go.Proofs.Ytkmegkjkbalooaa
open Go.RowKit

/-- What a step leaves. -/
def StepPost (c : Nat) (y : Cn.SR) (w : World) (e : Ending) (w' : World) : Prop := ∃ P, e = .returned (.tuple #[rcV y.1, rrV P y.2, .bool true]) ∧ ConnAt w' c y.1 ∧ Cn.Ok y.1 ∧ Touch (· = c) w w'
/-- What Same asks of a result. -/
structure ROk (r : Cn.R) : Prop where
  hs : ∀ s ∈ r.sigs, s.n = 0
  hu : ∀ u ∈ r.units, UOk u
  hms : 0 ≤ r.ms ∧ r.ms < 4294967296
  hl : r.sigs.length ≤ 100 ∧ r.units.length ≤ 100
theorem Touch.toFresh {w w' : World} (h : Touch (OfAct fun k => k < w.heap.size) w w') : Fresh w w' := ⟨h.os, h.tape, h.output, h.size, fun k hk _ => h.block k hk (fun e => e hk)⟩
/-- Behind a call of the connection its result is the document's: Same says so. -/
theorem same_post {w w1 : World} {c : Nat} {K : Nat → Prop} {y : Cn.SR} {v : Value} {P : RP} (hp : ConnPost w c y v w1) (hk : ROk y.2) (hr : RIn K 9 w1 P y.2) (w2 : World) (ht : Fresh w1 w2) :
    Calls Try.prog 54 #[v, .agg #[.slice P.A1 y.2.sigs.length P.c1, .slice P.A2 y.2.units.length P.c2, .bool y.2.begins, .bool y.2.ends, .int .i64 y.2.ms, .int .i64 y.2.timer]] w2 fun e w' => e = .returned (.bool true) ∧ Fresh w2 w' := by
  obtain ⟨A1, c1, A2, c2, rfl, s1, s2, _, _⟩ := hp.res
  obtain ⟨B1, e1, B2, e2⟩ := P
  exact same_any (s1.rd.old ht) (s2.rd.old ht) (hr.sigs.rd.old ht) (hr.units.rd.old ht) hk.hs hk.hu hk.hms hk.hl

set_option maxHeartbeats 8000000 in
set_option maxRecDepth 100000 in
theorem step_hear {w : World} {c : Nat} {s : Cn.S} (h : ConnAt w c s) (ho : Cn.Ok s) (un wh sq : Int) (kd q n : Int) (sf : Bool) (da : ByteArray) (hn : n % 16777216 = n) (hkd : (kd == 12) = false)
    (hun : ∀ w, Calls Try.prog 61 #[actV 0 0 un wh sq, rcV s] w fun e w' => e = .returned (ruV ⟨kd, q, n, 0, 0, none, 0, 0, sf, da⟩) ∧ Fresh w w') {y : Cn.SR} (hy : Cn.hearS s ⟨kd, q, n, 0, 0, none, 0, 0, sf, da⟩ = y) (hk : ROk y.2)
    (hrec : Hid (∀ (K : Nat → Prop) (w : World), (∀ k, K k → k < w.heap.size) → Calls Try.prog 62 #[rcV s, ruV ⟨kd, q, n, 0, 0, none, 0, 0, sf, da⟩] w (RPost K 9 (Cn.hearS s ⟨kd, q, n, 0, 0, none, 0, 0, sf, da⟩) w))) :
    Calls Try.prog 37 #[.pointer (some ⟨c, 0, none⟩), rcV s, actV 0 0 un wh sq] w (StepPost c y w) := by
  unfold rcV actV at *
  unfold ruV at hun
  dsimp only at hun
  have HUN := Lib.hid hun
  have HY := Lib.hid hy
  have HK := Lib.hid hk
  have HOW := Lib.hid (fun W => own14_any kd q n sf da W hkd)
  rw [hn] at HOW
  clear hun hy hk hn hkd
  obtain ⟨w1, q0⟩ : ∃ x : World, x = ((((w.alloc (.cells #[.int .i64 s.most, .int .i64 s.credit, .int .i64 s.state, .int .i64 s.sq, .int .i64 s.peer, .int .i64 s.cc, .int .i64 s.ms, .string s.data] 59)).alloc (.cells #[.int .i64 0, .int .i64 0, .int .i64 un, .int .i64 wh, .int .i64 sq, .bool false, .string { data := #[] }] 85)).alloc (.cells #[.int .i64 0, .int .i64 0, .int .i64 0, .int .i64 0, .int .i64 0, .int .i64 0, .int .i64 0, .string { data := #[] }] 59)).alloc (.cells #[.slice none 0 0, .slice none 0 0, .bool false, .bool false, .int .i64 0, .int .i64 0] 90)) := ⟨_, rfl⟩
  have q_w1 := Lib.hid q0
  clear q0
  have HF1 : Hid (Fresh w w1) := by rw [q_w1.out]; exact ((((Touch.refl _ w).alloc _).alloc _).alloc _).alloc _
  have HBX1 : Hid (Blk w1 (w.heap.size) 59 [.int .i64 s.most, .int .i64 s.credit, .int .i64 s.state, .int .i64 s.sq, .int .i64 s.peer, .int .i64 s.cc, .int .i64 s.ms, .string s.data]) := by
    rw [q_w1.out]
    have := (((Blk.new w 59 [.int .i64 s.most, .int .i64 s.credit, .int .i64 s.state, .int .i64 s.sq, .int .i64 s.peer, .int .i64 s.cc, .int .i64 s.ms, .string s.data]).alloc (.cells #[.int .i64 0, .int .i64 0, .int .i64 un, .int .i64 wh, .int .i64 sq, .bool false, .string { data := #[] }] 85)).alloc (.cells #[.int .i64 0, .int .i64 0, .int .i64 0, .int .i64 0, .int .i64 0, .int .i64 0, .int .i64 0, .string { data := #[] }] 59)).alloc (.cells #[.slice none 0 0, .slice none 0 0, .bool false, .bool false, .int .i64 0, .int .i64 0] 90)
    exact this
  have HBA1 : Hid (Blk w1 (w.heap.size + 1) 85 [.int .i64 0, .int .i64 0, .int .i64 un, .int .i64 wh, .int .i64 sq, .bool false, .string { data := #[] }]) := by
    rw [q_w1.out]
    have := ((Blk.new (w.alloc (.cells #[.int .i64 s.most, .int .i64 s.credit, .int .i64 s.state, .int .i64 s.sq, .int .i64 s.peer, .int .i64 s.cc, .int .i64 s.ms, .string s.data] 59)) 85 [.int .i64 0, .int .i64 0, .int .i64 un, .int .i64 wh, .int .i64 sq, .bool false, .string { data := #[] }]).alloc (.cells #[.int .i64 0, .int .i64 0, .int .i64 0, .int .i64 0, .int .i64 0, .int .i64 0, .int .i64 0, .string { data := #[] }] 59)).alloc (.cells #[.slice none 0 0, .slice none 0 0, .bool false, .bool false, .int .i64 0, .int .i64 0] 90)
    rwa [show (w.alloc (.cells #[.int .i64 s.most, .int .i64 s.credit, .int .i64 s.state, .int .i64 s.sq, .int .i64 s.peer, .int .i64 s.cc, .int .i64 s.ms, .string s.data] 59)).heap.size = w.heap.size + 1 by simp] at this
  have HBOC1 : Hid (Blk w1 (w.heap.size + 1 + 1) 59 [.int .i64 0, .int .i64 0, .int .i64 0, .int .i64 0, .int .i64 0, .int .i64 0, .int .i64 0, .string { data := #[] }]) := by
    rw [q_w1.out]
    have := (Blk.new ((w.alloc (.cells #[.int .i64 s.most, .int .i64 s.credit, .int .i64 s.state, .int .i64 s.sq, .int .i64 s.peer, .int .i64 s.cc, .int .i64 s.ms, .string s.data] 59)).alloc (.cells #[.int .i64 0, .int .i64 0, .int .i64 un, .int .i64 wh, .int .i64 sq, .bool false, .string { data := #[] }] 85)) 59 [.int .i64 0, .int .i64 0, .int .i64 0, .int .i64 0, .int .i64 0, .int .i64 0, .int .i64 0, .string { data := #[] }]).alloc (.cells #[.slice none 0 0, .slice none 0 0, .bool false, .bool false, .int .i64 0, .int .i64 0] 90)
    rwa [show ((w.alloc (.cells #[.int .i64 s.most, .int .i64 s.credit, .int .i64 s.state, .int .i64 s.sq, .int .i64 s.peer, .int .i64 s.cc, .int .i64 s.ms, .string s.data] 59)).alloc (.cells #[.int .i64 0, .int .i64 0, .int .i64 un, .int .i64 wh, .int .i64 sq, .bool false, .string { data := #[] }] 85)).heap.size = w.heap.size + 1 + 1 by simp] at this
  have HBOR1 : Hid (Blk w1 (w.heap.size + 1 + 1 + 1) 90 [.slice none 0 0, .slice none 0 0, .bool false, .bool false, .int .i64 0, .int .i64 0]) := by
    rw [q_w1.out]
    have := Blk.new (((w.alloc (.cells #[.int .i64 s.most, .int .i64 s.credit, .int .i64 s.state, .int .i64 s.sq, .int .i64 s.peer, .int .i64 s.cc, .int .i64 s.ms, .string s.data] 59)).alloc (.cells #[.int .i64 0, .int .i64 0, .int .i64 un, .int .i64 wh, .int .i64 sq, .bool false, .string { data := #[] }] 85)).alloc (.cells #[.int .i64 0, .int .i64 0, .int .i64 0, .int .i64 0, .int .i64 0, .int .i64 0, .int .i64 0, .string { data := #[] }] 59)) 90 [.slice none 0 0, .slice none 0 0, .bool false, .bool false, .int .i64 0, .int .i64 0]
    rwa [show (((w.alloc (.cells #[.int .i64 s.most, .int .i64 s.credit, .int .i64 s.state, .int .i64 s.sq, .int .i64 s.peer, .int .i64 s.cc, .int .i64 s.ms, .string s.data] 59)).alloc (.cells #[.int .i64 0, .int .i64 0, .int .i64 un, .int .i64 wh, .int .i64 sq, .bool false, .string { data := #[] }] 85)).alloc (.cells #[.int .i64 0, .int .i64 0, .int .i64 0, .int .i64 0, .int .i64 0, .int .i64 0, .int .i64 0, .string { data := #[] }] 59)).heap.size = w.heap.size + 1 + 1 + 1 by simp] at this
  have HCL : Hid (c < w.heap.size) := Blk.lt h
  have HC1 : Hid (ConnAt w1 c s) := HF1.out.blk h (fun e => e)
  have HO := Lib.hid ho
  clear h ho
  go_enter Try.func37, Try.ntmps37
  go_upto_region 1 with (fail)
  rw [← q_w1.out]
  clear q_w1
  have HGE : Hid (w.heap.size ≤ w.heap.size) := Nat.le_refl _
  generalize hgg : w.heap.size = g at *
  have HGG := Lib.hid hgg
  clear hgg HGE
  have xX0 : w1.cell? ⟨g, 0, none⟩ = some (.int .i64 s.most) := HBX1.out.cell 0
  have xX1 : w1.cell? ⟨g, 1, none⟩ = some (.int .i64 s.credit) := HBX1.out.cell 1
  have xX2 : w1.cell? ⟨g, 2, none⟩ = some (.int .i64 s.state) := HBX1.out.cell 2
  have xX3 : w1.cell? ⟨g, 3, none⟩ = some (.int .i64 s.sq) := HBX1.out.cell 3
  have xX4 : w1.cell? ⟨g, 4, none⟩ = some (.int .i64 s.peer) := HBX1.out.cell 4
  have xX5 : w1.cell? ⟨g, 5, none⟩ = some (.int .i64 s.cc) := HBX1.out.cell 5
  have xX6 : w1.cell? ⟨g, 6, none⟩ = some (.int .i64 s.ms) := HBX1.out.cell 6
  have xX7 : w1.cell? ⟨g, 7, none⟩ = some (.string s.data) := HBX1.out.cell 7
  have xA0 : w1.cell? ⟨g + 1, 0, none⟩ = some (.int .i64 0) := HBA1.out.cell 0
  have xA1 : w1.cell? ⟨g + 1, 1, none⟩ = some (.int .i64 0) := HBA1.out.cell 1
  have xA2 : w1.cell? ⟨g + 1, 2, none⟩ = some (.int .i64 un) := HBA1.out.cell 2
  have xA3 : w1.cell? ⟨g + 1, 3, none⟩ = some (.int .i64 wh) := HBA1.out.cell 3
  have xA4 : w1.cell? ⟨g + 1, 4, none⟩ = some (.int .i64 sq) := HBA1.out.cell 4
  have xA5 : w1.cell? ⟨g + 1, 5, none⟩ = some (.bool false) := HBA1.out.cell 5
  have xA6 : w1.cell? ⟨g + 1, 6, none⟩ = some (.string { data := #[] }) := HBA1.out.cell 6
  go_wp2_with fail
  refine (HUN.out w1).mono ?_
  rintro e w2 ⟨rfl, f2⟩
  have HBX2 := Lib.hid (f2.blk HBX1.out (fun e => e))
  have HBA2 := Lib.hid (f2.blk HBA1.out (fun e => e))
  have HBOC2 := Lib.hid (f2.blk HBOC1.out (fun e => e))
  have HBOR2 := Lib.hid (f2.blk HBOR1.out (fun e => e))
  have HF2 : Hid (Fresh w w2) := HF1.out.trans f2 (fun _ _ e => e)
  have HC2 : Hid (ConnAt w2 c s) := f2.blk HC1.out (fun e => e)
  clear xX0 xX1 xX2 xX3 xX4 xX5 xX6 xX7 xA0 xA1 xA2 xA3 xA4 xA5 xA6
  clear HBX1 HBA1 HBOC1 HBOR1 HF1 HC1
  clear f2
  have xX0 : w2.cell? ⟨g, 0, none⟩ = some (.int .i64 s.most) := HBX2.out.cell 0
  have xX1 : w2.cell? ⟨g, 1, none⟩ = some (.int .i64 s.credit) := HBX2.out.cell 1
  have xX2 : w2.cell? ⟨g, 2, none⟩ = some (.int .i64 s.state) := HBX2.out.cell 2
  have xX3 : w2.cell? ⟨g, 3, none⟩ = some (.int .i64 s.sq) := HBX2.out.cell 3
  have xX4 : w2.cell? ⟨g, 4, none⟩ = some (.int .i64 s.peer) := HBX2.out.cell 4
  have xX5 : w2.cell? ⟨g, 5, none⟩ = some (.int .i64 s.cc) := HBX2.out.cell 5
  have xX6 : w2.cell? ⟨g, 6, none⟩ = some (.int .i64 s.ms) := HBX2.out.cell 6
  have xX7 : w2.cell? ⟨g, 7, none⟩ = some (.string s.data) := HBX2.out.cell 7
  go_upto_region 24 with (fail)
  have hf3 : Fresh w2 (w2.alloc (.cells #[.int .i64 kd, .int .i64 q, .int .i64 n, .bool sf, .string da] 110)) := (Touch.refl _ w2).alloc _
  have HBU3 : Hid (Blk (w2.alloc (.cells #[.int .i64 kd, .int .i64 q, .int .i64 n, .bool sf, .string da] 110)) (w2.heap.size) 110 [.int .i64 kd, .int .i64 q, .int .i64 n, .bool sf, .string da]) := by
    have := Blk.new w2 110 [.int .i64 kd, .int .i64 q, .int .i64 n, .bool sf, .string da]
    exact this
  have HBX3 := Lib.hid (hf3.blk HBX2.out (fun e => e))
  have HBA3 := Lib.hid (hf3.blk HBA2.out (fun e => e))
  have HBOC3 := Lib.hid (hf3.blk HBOC2.out (fun e => e))
  have HBOR3 := Lib.hid (hf3.blk HBOR2.out (fun e => e))
  have HF3 : Hid (Fresh w (w2.alloc (.cells #[.int .i64 kd, .int .i64 q, .int .i64 n, .bool sf, .string da] 110))) := HF2.out.trans hf3 (fun _ _ e => e)
  have HC3 : Hid (ConnAt (w2.alloc (.cells #[.int .i64 kd, .int .i64 q, .int .i64 n, .bool sf, .string da] 110)) c s) := hf3.blk HC2.out (fun e => e)
  have HSZ3 : Hid (g + 1 + 1 + 1 < w2.heap.size) := HBOR2.out.lt
  clear xX0 xX1 xX2 xX3 xX4 xX5 xX6 xX7
  clear HBX2 HBA2 HBOC2 HBOR2 HF2 HC2 hf3
  generalize (w2.alloc (.cells #[.int .i64 kd, .int .i64 q, .int .i64 n, .bool sf, .string da] 110)) = w3 at *
  generalize w2.heap.size = b3 at *
  have HCLR : Hid (c < w3.heap.size) := Blk.lt HC3.out
  have xX0 : w3.cell? ⟨g, 0, none⟩ = some (.int .i64 s.most) := HBX3.out.cell 0
  have xX1 : w3.cell? ⟨g, 1, none⟩ = some (.int .i64 s.credit) := HBX3.out.cell 1
  have xX2 : w3.cell? ⟨g, 2, none⟩ = some (.int .i64 s.state) := HBX3.out.cell 2
  have xX3 : w3.cell? ⟨g, 3, none⟩ = some (.int .i64 s.sq) := HBX3.out.cell 3
  have xX4 : w3.cell? ⟨g, 4, none⟩ = some (.int .i64 s.peer) := HBX3.out.cell 4
  have xX5 : w3.cell? ⟨g, 5, none⟩ = some (.int .i64 s.cc) := HBX3.out.cell 5
  have xX6 : w3.cell? ⟨g, 6, none⟩ = some (.int .i64 s.ms) := HBX3.out.cell 6
  have xX7 : w3.cell? ⟨g, 7, none⟩ = some (.string s.data) := HBX3.out.cell 7
  have xU0 : w3.cell? ⟨b3, 0, none⟩ = some (.int .i64 kd) := HBU3.out.cell 0
  have xU1 : w3.cell? ⟨b3, 1, none⟩ = some (.int .i64 q) := HBU3.out.cell 1
  have xU2 : w3.cell? ⟨b3, 2, none⟩ = some (.int .i64 n) := HBU3.out.cell 2
  have xU3 : w3.cell? ⟨b3, 3, none⟩ = some (.bool sf) := HBU3.out.cell 3
  have xU4 : w3.cell? ⟨b3, 4, none⟩ = some (.string da) := HBU3.out.cell 4
  go_wp2_with fail
  refine (hrec.out (fun k => k < w3.heap.size) w3 (fun _ h => h)).mono ?_
  rw [HY.out]
  rintro e w4 ⟨P, rfl, hr4, ht4⟩
  simp only [rcV, rrV]
  have f4 := ht4.toFresh
  have HR4 : Hid (RIn (fun k => k < w3.heap.size) 9 w4 P y.2) := hr4
  clear hr4 ht4
  have HBX4 := Lib.hid (f4.blk HBX3.out (fun e => e))
  have HBA4 := Lib.hid (f4.blk HBA3.out (fun e => e))
  have HBOC4 := Lib.hid (f4.blk HBOC3.out (fun e => e))
  have HBOR4 := Lib.hid (f4.blk HBOR3.out (fun e => e))
  have HBU4 := Lib.hid (f4.blk HBU3.out (fun e => e))
  have HF4 : Hid (Fresh w w4) := HF3.out.trans f4 (fun _ _ e => e)
  have HC4 : Hid (ConnAt w4 c s) := f4.blk HC3.out (fun e => e)
  clear xX0 xX1 xX2 xX3 xX4 xX5 xX6 xX7 xU0 xU1 xU2 xU3 xU4
  clear HBX3 HBA3 HBOC3 HBOR3 HBU3 HF3 HC3
  clear f4
  go_upto_region 25 with (fail)
  obtain ⟨w5, q0⟩ : ∃ x : World, x = ((w4.alloc (.cells #[.int .i64 y.1.most, .int .i64 y.1.credit, .int .i64 y.1.state, .int .i64 y.1.sq, .int .i64 y.1.peer, .int .i64 y.1.cc, .int .i64 y.1.ms, .string y.1.data] 59)).alloc (.cells #[.slice P.A1 y.2.sigs.length P.c1, .slice P.A2 y.2.units.length P.c2, .bool y.2.begins, .bool y.2.ends, .int .i64 y.2.ms, .int .i64 y.2.timer] 90)) := ⟨_, rfl⟩
  have q_w5 := Lib.hid q0
  clear q0
  have hf5 : Fresh w4 w5 := by rw [q_w5.out]; exact ((Touch.refl _ w4).alloc _).alloc _
  have HBC5 : Hid (Blk w5 (w4.heap.size) 59 [.int .i64 y.1.most, .int .i64 y.1.credit, .int .i64 y.1.state, .int .i64 y.1.sq, .int .i64 y.1.peer, .int .i64 y.1.cc, .int .i64 y.1.ms, .string y.1.data]) := by
    rw [q_w5.out]
    have := (Blk.new w4 59 [.int .i64 y.1.most, .int .i64 y.1.credit, .int .i64 y.1.state, .int .i64 y.1.sq, .int .i64 y.1.peer, .int .i64 y.1.cc, .int .i64 y.1.ms, .string y.1.data]).alloc (.cells #[.slice P.A1 y.2.sigs.length P.c1, .slice P.A2 y.2.units.length P.c2, .bool y.2.begins, .bool y.2.ends, .int .i64 y.2.ms, .int .i64 y.2.timer] 90)
    exact this
  have HBR5 : Hid (Blk w5 (w4.heap.size + 1) 90 [.slice P.A1 y.2.sigs.length P.c1, .slice P.A2 y.2.units.length P.c2, .bool y.2.begins, .bool y.2.ends, .int .i64 y.2.ms, .int .i64 y.2.timer]) := by
    rw [q_w5.out]
    have := Blk.new (w4.alloc (.cells #[.int .i64 y.1.most, .int .i64 y.1.credit, .int .i64 y.1.state, .int .i64 y.1.sq, .int .i64 y.1.peer, .int .i64 y.1.cc, .int .i64 y.1.ms, .string y.1.data] 59)) 90 [.slice P.A1 y.2.sigs.length P.c1, .slice P.A2 y.2.units.length P.c2, .bool y.2.begins, .bool y.2.ends, .int .i64 y.2.ms, .int .i64 y.2.timer]
    rwa [show (w4.alloc (.cells #[.int .i64 y.1.most, .int .i64 y.1.credit, .int .i64 y.1.state, .int .i64 y.1.sq, .int .i64 y.1.peer, .int .i64 y.1.cc, .int .i64 y.1.ms, .string y.1.data] 59)).heap.size = w4.heap.size + 1 by simp] at this
  have HBX5 := Lib.hid (hf5.blk HBX4.out (fun e => e))
  have HBA5 := Lib.hid (hf5.blk HBA4.out (fun e => e))
  have HBOC5 := Lib.hid (hf5.blk HBOC4.out (fun e => e))
  have HBOR5 := Lib.hid (hf5.blk HBOR4.out (fun e => e))
  have HBU5 := Lib.hid (hf5.blk HBU4.out (fun e => e))
  have HF5 : Hid (Fresh w w5) := HF4.out.trans hf5 (fun _ _ e => e)
  have HC5 : Hid (ConnAt w5 c s) := hf5.blk HC4.out (fun e => e)
  have HSZ5 : Hid (g + 1 + 1 + 1 < w4.heap.size) := HBOR4.out.lt
  have HR5 := Lib.hid (HR4.out.old hf5)
  clear HBX4 HBA4 HBOC4 HBOR4 HBU4 HF4 HC4 hf5
  rw [← q_w5.out]
  clear q_w5
  generalize w4.heap.size = b5 at *
  clear HR4
  have KEEP : Hid (∀ wx, Touch (fun k => k = c ∨ k = g + 1 + 1 ∨ k = g + 1 + 1 + 1) w5 wx → wx.cell? ⟨b5, 0, none⟩ = some (.int .i64 y.1.most) ∧ wx.cell? ⟨b5, 1, none⟩ = some (.int .i64 y.1.credit) ∧ wx.cell? ⟨b5, 2, none⟩ = some (.int .i64 y.1.state) ∧ wx.cell? ⟨b5, 3, none⟩ = some (.int .i64 y.1.sq) ∧ wx.cell? ⟨b5, 4, none⟩ = some (.int .i64 y.1.peer) ∧ wx.cell? ⟨b5, 5, none⟩ = some (.int .i64 y.1.cc) ∧ wx.cell? ⟨b5, 6, none⟩ = some (.int .i64 y.1.ms) ∧ wx.cell? ⟨b5, 7, none⟩ = some (.string y.1.data) ∧ wx.cell? ⟨b5 + 1, 0, none⟩ = some (.slice P.A1 y.2.sigs.length P.c1) ∧ wx.cell? ⟨b5 + 1, 1, none⟩ = some (.slice P.A2 y.2.units.length P.c2) ∧ wx.cell? ⟨b5 + 1, 2, none⟩ = some (.bool y.2.begins) ∧ wx.cell? ⟨b5 + 1, 3, none⟩ = some (.bool y.2.ends) ∧ wx.cell? ⟨b5 + 1, 4, none⟩ = some (.int .i64 y.2.ms) ∧ wx.cell? ⟨b5 + 1, 5, none⟩ = some (.int .i64 y.2.timer) ∧ wx.cell? ⟨b3, 0, none⟩ = some (.int .i64 kd) ∧ wx.cell? ⟨b3, 1, none⟩ = some (.int .i64 q) ∧ wx.cell? ⟨b3, 2, none⟩ = some (.int .i64 n) ∧ wx.cell? ⟨b3, 3, none⟩ = some (.bool sf) ∧ wx.cell? ⟨b3, 4, none⟩ = some (.string da)) := fun wx ht => by
    have hnC : ¬ (b5 = c ∨ b5 = g + 1 + 1 ∨ b5 = g + 1 + 1 + 1) := by have := HCL.out; have := HSZ3.out; have := HSZ5.out; omega
    have hnR : ¬ (b5 + 1 = c ∨ b5 + 1 = g + 1 + 1 ∨ b5 + 1 = g + 1 + 1 + 1) := by have := HCL.out; have := HSZ3.out; have := HSZ5.out; omega
    have hnU : ¬ (b3 = c ∨ b3 = g + 1 + 1 ∨ b3 = g + 1 + 1 + 1) := by have := HCL.out; have := HSZ3.out; have := HSZ5.out; omega
    exact ⟨(ht.blk HBC5.out hnC).cell 0, (ht.blk HBC5.out hnC).cell 1, (ht.blk HBC5.out hnC).cell 2, (ht.blk HBC5.out hnC).cell 3, (ht.blk HBC5.out hnC).cell 4, (ht.blk HBC5.out hnC).cell 5, (ht.blk HBC5.out hnC).cell 6, (ht.blk HBC5.out hnC).cell 7, (ht.blk HBR5.out hnR).cell 0, (ht.blk HBR5.out hnR).cell 1, (ht.blk HBR5.out hnR).cell 2, (ht.blk HBR5.out hnR).cell 3, (ht.blk HBR5.out hnR).cell 4, (ht.blk HBR5.out hnR).cell 5, (ht.blk HBU5.out hnU).cell 0, (ht.blk HBU5.out hnU).cell 1, (ht.blk HBU5.out hnU).cell 2, (ht.blk HBU5.out hnU).cell 3, (ht.blk HBU5.out hnU).cell 4⟩
  have ht0 : Touch (fun k => k = c ∨ k = g + 1 + 1 ∨ k = g + 1 + 1 + 1) w5 w5.drew := (Touch.refl _ _).drew
  have hc0 : ConnAt w5.drew c s := Blk.drew HC5.out
  have HNOC : Hid (¬ g + 1 + 1 = c) := by unfold Hid; have := HCL.out; omega
  have HNOR : Hid (¬ g + 1 + 1 + 1 = c) := by unfold Hid; have := HCL.out; omega
  go_region_held3 (fun wx => wx.cell? ⟨b5, 0, none⟩ = some (.int .i64 y.1.most) ∧ wx.cell? ⟨b5, 1, none⟩ = some (.int .i64 y.1.credit) ∧ wx.cell? ⟨b5, 2, none⟩ = some (.int .i64 y.1.state) ∧ wx.cell? ⟨b5, 3, none⟩ = some (.int .i64 y.1.sq) ∧ wx.cell? ⟨b5, 4, none⟩ = some (.int .i64 y.1.peer) ∧ wx.cell? ⟨b5, 5, none⟩ = some (.int .i64 y.1.cc) ∧ wx.cell? ⟨b5, 6, none⟩ = some (.int .i64 y.1.ms) ∧ wx.cell? ⟨b5, 7, none⟩ = some (.string y.1.data) ∧ wx.cell? ⟨b5 + 1, 0, none⟩ = some (.slice P.A1 y.2.sigs.length P.c1) ∧ wx.cell? ⟨b5 + 1, 1, none⟩ = some (.slice P.A2 y.2.units.length P.c2) ∧ wx.cell? ⟨b5 + 1, 2, none⟩ = some (.bool y.2.begins) ∧ wx.cell? ⟨b5 + 1, 3, none⟩ = some (.bool y.2.ends) ∧ wx.cell? ⟨b5 + 1, 4, none⟩ = some (.int .i64 y.2.ms) ∧ wx.cell? ⟨b5 + 1, 5, none⟩ = some (.int .i64 y.2.timer) ∧ wx.cell? ⟨b3, 0, none⟩ = some (.int .i64 kd) ∧ wx.cell? ⟨b3, 1, none⟩ = some (.int .i64 q) ∧ wx.cell? ⟨b3, 2, none⟩ = some (.int .i64 n) ∧ wx.cell? ⟨b3, 3, none⟩ = some (.bool sf) ∧ wx.cell? ⟨b3, 4, none⟩ = some (.string da))
    (first
      | with_reducible exact KEEP.out _ (by with_reducible assumption)
      | exact KEEP.out _ (by repeat (first | with_reducible assumption | refine Touch.st ?_ (by first | exact Or.inr (Or.inl rfl) | exact Or.inr (Or.inr rfl))))
      | with_reducible assumption)
    (first
      | (go_simp; go_at_call 60; refine (HOW.out _).mono ?_; rintro e6 w6 ⟨rfl, f6⟩; have ht6 := ht0.trans f6 (fun _ _ e => e.elim); have hc6 : ConnAt w6 c s := f6.blk hc0 (fun e => e); have hf6 : Fresh w5 w6 := ((Touch.refl _ w5).drew).trans f6 (fun _ _ e => e); clear f6)
      | (go_simp; go_at_call 15; refine (creceive_any hc6 HO.out ⟨kd, q, n, 0, 0, none, 0, 0, sf, da⟩).mono ?_; rw [HY.out]; rintro e7 w7 ⟨v, rfl, hp⟩; have ht7 := ht6.trans hp.touch (fun _ _ e => Or.inl e); have hsp := same_post hp HK.out ((HR5.out.old hf6).touch hp.touch (fun k e => by have e : k = c := e; rw [e]; exact HCLR.out)); have hcp := hp.conn; have hop := hp.ok; have htp : Touch (· = c) w w7 := (((HF5.out.trans hf6 (fun _ _ e => e)).mono (fun _ _ e => e.elim)).trans hp.touch (fun _ _ e => e)); have hOC7 := ht7; have hbOC := hp.touch.blk (hf6.blk HBOC5.out (fun e => e)) HNOC.out; have hbOR := hp.touch.blk (hf6.blk HBOR5.out (fun e => e)) HNOR.out; clear hOC7 hp)
      | (go_simp; go_at_call 54; refine (hsp _ (Touch.refl _ _)).mono ?_; rintro e8 w8 ⟨rfl, f8⟩; have ht8 := ht7.trans f8 (fun _ _ e => e.elim); have HB8OC := Lib.hid (f8.blk hbOC (fun e => e)); have HB8OR := Lib.hid (f8.blk hbOR (fun e => e)); have HC8 : Hid (ConnAt w8 c y.1) := f8.blk hcp (fun e => e); have HT8 : Hid (Touch (· = c) w w8) := htp.trans f8 (fun _ _ e => e.elim); have HOP := Lib.hid hop; clear hsp hcp hop htp hbOC hbOR f8; have zOC0 : w8.cell? ⟨g + 1 + 1, 0, none⟩ = some (.int .i64 0) := HB8OC.out.cell 0; have fOC0 := HB8OC.out.frozen 0; have zOC1 : w8.cell? ⟨g + 1 + 1, 1, none⟩ = some (.int .i64 0) := HB8OC.out.cell 1; have fOC1 := HB8OC.out.frozen 1; have zOC2 : w8.cell? ⟨g + 1 + 1, 2, none⟩ = some (.int .i64 0) := HB8OC.out.cell 2; have fOC2 := HB8OC.out.frozen 2; have zOC3 : w8.cell? ⟨g + 1 + 1, 3, none⟩ = some (.int .i64 0) := HB8OC.out.cell 3; have fOC3 := HB8OC.out.frozen 3; have zOC4 : w8.cell? ⟨g + 1 + 1, 4, none⟩ = some (.int .i64 0) := HB8OC.out.cell 4; have fOC4 := HB8OC.out.frozen 4; have zOC5 : w8.cell? ⟨g + 1 + 1, 5, none⟩ = some (.int .i64 0) := HB8OC.out.cell 5; have fOC5 := HB8OC.out.frozen 5; have zOC6 : w8.cell? ⟨g + 1 + 1, 6, none⟩ = some (.int .i64 0) := HB8OC.out.cell 6; have fOC6 := HB8OC.out.frozen 6; have zOC7 : w8.cell? ⟨g + 1 + 1, 7, none⟩ = some (.string { data := #[] }) := HB8OC.out.cell 7; have fOC7 := HB8OC.out.frozen 7; have zOR0 : w8.cell? ⟨g + 1 + 1 + 1, 0, none⟩ = some (.slice none 0 0) := HB8OR.out.cell 0; have fOR0 := HB8OR.out.frozen 0; have zOR1 : w8.cell? ⟨g + 1 + 1 + 1, 1, none⟩ = some (.slice none 0 0) := HB8OR.out.cell 1; have fOR1 := HB8OR.out.frozen 1; have zOR2 : w8.cell? ⟨g + 1 + 1 + 1, 2, none⟩ = some (.bool false) := HB8OR.out.cell 2; have fOR2 := HB8OR.out.frozen 2; have zOR3 : w8.cell? ⟨g + 1 + 1 + 1, 3, none⟩ = some (.bool false) := HB8OR.out.cell 3; have fOR3 := HB8OR.out.frozen 3; have zOR4 : w8.cell? ⟨g + 1 + 1 + 1, 4, none⟩ = some (.int .i64 0) := HB8OR.out.cell 4; have fOR4 := HB8OR.out.frozen 4; have zOR5 : w8.cell? ⟨g + 1 + 1 + 1, 5, none⟩ = some (.int .i64 0) := HB8OR.out.cell 5; have fOR5 := HB8OR.out.frozen 5))
  all_goals
    rename_i hH
    clear hH
    have ta : Touch (· = g + 1 + 1) w8 ((((((((w8.setCell ⟨g + 1 + 1, 0, none⟩ (.int .i64 y.1.most)).setCell ⟨g + 1 + 1, 1, none⟩ (.int .i64 y.1.credit)).setCell ⟨g + 1 + 1, 2, none⟩ (.int .i64 y.1.state)).setCell ⟨g + 1 + 1, 3, none⟩ (.int .i64 y.1.sq)).setCell ⟨g + 1 + 1, 4, none⟩ (.int .i64 y.1.peer)).setCell ⟨g + 1 + 1, 5, none⟩ (.int .i64 y.1.cc)).setCell ⟨g + 1 + 1, 6, none⟩ (.int .i64 y.1.ms)).setCell ⟨g + 1 + 1, 7, none⟩ (.string y.1.data)) := (((((((((Touch.refl _ w8).st (S := (· = g + 1 + 1)) (u := .int .i64 y.1.most) (by exact rfl)).st (S := (· = g + 1 + 1)) (u := .int .i64 y.1.credit) (by exact rfl)).st (S := (· = g + 1 + 1)) (u := .int .i64 y.1.state) (by exact rfl)).st (S := (· = g + 1 + 1)) (u := .int .i64 y.1.sq) (by exact rfl)).st (S := (· = g + 1 + 1)) (u := .int .i64 y.1.peer) (by exact rfl)).st (S := (· = g + 1 + 1)) (u := .int .i64 y.1.cc) (by exact rfl)).st (S := (· = g + 1 + 1)) (u := .int .i64 y.1.ms) (by exact rfl)).st (S := (· = g + 1 + 1)) (u := .string y.1.data) (by exact rfl))
    have hoc : Blk ((((((((w8.setCell ⟨g + 1 + 1, 0, none⟩ (.int .i64 y.1.most)).setCell ⟨g + 1 + 1, 1, none⟩ (.int .i64 y.1.credit)).setCell ⟨g + 1 + 1, 2, none⟩ (.int .i64 y.1.state)).setCell ⟨g + 1 + 1, 3, none⟩ (.int .i64 y.1.sq)).setCell ⟨g + 1 + 1, 4, none⟩ (.int .i64 y.1.peer)).setCell ⟨g + 1 + 1, 5, none⟩ (.int .i64 y.1.cc)).setCell ⟨g + 1 + 1, 6, none⟩ (.int .i64 y.1.ms)).setCell ⟨g + 1 + 1, 7, none⟩ (.string y.1.data)) (g + 1 + 1) 59 [.int .i64 y.1.most, .int .i64 y.1.credit, .int .i64 y.1.state, .int .i64 y.1.sq, .int .i64 y.1.peer, .int .i64 y.1.cc, .int .i64 y.1.ms, .string y.1.data] := ((((((((HB8OC.out.set 0 (.int .i64 y.1.most)).set 1 (.int .i64 y.1.credit)).set 2 (.int .i64 y.1.state)).set 3 (.int .i64 y.1.sq)).set 4 (.int .i64 y.1.peer)).set 5 (.int .i64 y.1.cc)).set 6 (.int .i64 y.1.ms)).set 7 (.string y.1.data))
    have hor := ta.blk HB8OR.out (by intro e; have e : g + 1 + 1 + 1 = g + 1 + 1 := e; omega)
    obtain ⟨w9, q0⟩ : ∃ x : World, x = ((((((((((((((w8.setCell ⟨g + 1 + 1, 0, none⟩ (.int .i64 y.1.most)).setCell ⟨g + 1 + 1, 1, none⟩ (.int .i64 y.1.credit)).setCell ⟨g + 1 + 1, 2, none⟩ (.int .i64 y.1.state)).setCell ⟨g + 1 + 1, 3, none⟩ (.int .i64 y.1.sq)).setCell ⟨g + 1 + 1, 4, none⟩ (.int .i64 y.1.peer)).setCell ⟨g + 1 + 1, 5, none⟩ (.int .i64 y.1.cc)).setCell ⟨g + 1 + 1, 6, none⟩ (.int .i64 y.1.ms)).setCell ⟨g + 1 + 1, 7, none⟩ (.string y.1.data)).setCell ⟨g + 1 + 1 + 1, 0, none⟩ (.slice P.A1 y.2.sigs.length P.c1)).setCell ⟨g + 1 + 1 + 1, 1, none⟩ (.slice P.A2 y.2.units.length P.c2)).setCell ⟨g + 1 + 1 + 1, 2, none⟩ (.bool y.2.begins)).setCell ⟨g + 1 + 1 + 1, 3, none⟩ (.bool y.2.ends)).setCell ⟨g + 1 + 1 + 1, 4, none⟩ (.int .i64 y.2.ms)).setCell ⟨g + 1 + 1 + 1, 5, none⟩ (.int .i64 y.2.timer)) := ⟨_, rfl⟩
    have q_w9 := Lib.hid q0
    clear q0
    have tb : Touch (· = g + 1 + 1 + 1) ((((((((w8.setCell ⟨g + 1 + 1, 0, none⟩ (.int .i64 y.1.most)).setCell ⟨g + 1 + 1, 1, none⟩ (.int .i64 y.1.credit)).setCell ⟨g + 1 + 1, 2, none⟩ (.int .i64 y.1.state)).setCell ⟨g + 1 + 1, 3, none⟩ (.int .i64 y.1.sq)).setCell ⟨g + 1 + 1, 4, none⟩ (.int .i64 y.1.peer)).setCell ⟨g + 1 + 1, 5, none⟩ (.int .i64 y.1.cc)).setCell ⟨g + 1 + 1, 6, none⟩ (.int .i64 y.1.ms)).setCell ⟨g + 1 + 1, 7, none⟩ (.string y.1.data)) w9 := by rw [q_w9.out]; exact (((((((Touch.refl _ ((((((((w8.setCell ⟨g + 1 + 1, 0, none⟩ (.int .i64 y.1.most)).setCell ⟨g + 1 + 1, 1, none⟩ (.int .i64 y.1.credit)).setCell ⟨g + 1 + 1, 2, none⟩ (.int .i64 y.1.state)).setCell ⟨g + 1 + 1, 3, none⟩ (.int .i64 y.1.sq)).setCell ⟨g + 1 + 1, 4, none⟩ (.int .i64 y.1.peer)).setCell ⟨g + 1 + 1, 5, none⟩ (.int .i64 y.1.cc)).setCell ⟨g + 1 + 1, 6, none⟩ (.int .i64 y.1.ms)).setCell ⟨g + 1 + 1, 7, none⟩ (.string y.1.data))).st (S := (· = g + 1 + 1 + 1)) (u := .slice P.A1 y.2.sigs.length P.c1) (by exact rfl)).st (S := (· = g + 1 + 1 + 1)) (u := .slice P.A2 y.2.units.length P.c2) (by exact rfl)).st (S := (· = g + 1 + 1 + 1)) (u := .bool y.2.begins) (by exact rfl)).st (S := (· = g + 1 + 1 + 1)) (u := .bool y.2.ends) (by exact rfl)).st (S := (· = g + 1 + 1 + 1)) (u := .int .i64 y.2.ms) (by exact rfl)).st (S := (· = g + 1 + 1 + 1)) (u := .int .i64 y.2.timer) (by exact rfl))
    have hor2 : Blk w9 (g + 1 + 1 + 1) 90 [.slice P.A1 y.2.sigs.length P.c1, .slice P.A2 y.2.units.length P.c2, .bool y.2.begins, .bool y.2.ends, .int .i64 y.2.ms, .int .i64 y.2.timer] := by rw [q_w9.out]; exact ((((((hor.set 0 (.slice P.A1 y.2.sigs.length P.c1)).set 1 (.slice P.A2 y.2.units.length P.c2)).set 2 (.bool y.2.begins)).set 3 (.bool y.2.ends)).set 4 (.int .i64 y.2.ms)).set 5 (.int .i64 y.2.timer))
    have hoc2 := tb.blk hoc (by intro e; have e : g + 1 + 1 = g + 1 + 1 + 1 := e; omega)
    have hc9 : ConnAt w9 c y.1 := tb.blk (ta.blk HC8.out (by intro e; have e : c = g + 1 + 1 := e; have := HCL.out; omega)) (by intro e; have e : c = g + 1 + 1 + 1 := e; have := HCL.out; omega)
    have ht9 : Touch (· = c) w w9 := (HT8.out.trans ta (fun k hk e => by have e : k = g + 1 + 1 := e; have := HGG.out; omega)).trans tb (fun k hk e => by have e : k = g + 1 + 1 + 1 := e; have := HGG.out; omega)
    have HX : Hid (∀ e, e = .returned (.tuple #[.agg #[.int .i64 y.1.most, .int .i64 y.1.credit, .int .i64 y.1.state, .int .i64 y.1.sq, .int .i64 y.1.peer, .int .i64 y.1.cc, .int .i64 y.1.ms, .string y.1.data], .agg #[.slice P.A1 y.2.sigs.length P.c1, .slice P.A2 y.2.units.length P.c2, .bool y.2.begins, .bool y.2.ends, .int .i64 y.2.ms, .int .i64 y.2.timer], .bool true]) → StepPost c y w e w9) := fun e he => ⟨P, he, hc9, HOP.out, ht9⟩
    clear ta tb hoc hor hc9 ht9 zOC0 fOC0 zOC1 fOC1 zOC2 fOC2 zOC3 fOC3 zOC4 fOC4 zOC5 fOC5 zOC6 fOC6 zOC7 fOC7 zOR0 fOR0 zOR1 fOR1 zOR2 fOR2 zOR3 fOR3 zOR4 fOR4 zOR5 fOR5
    rw [← q_w9.out]
    clear q_w9
    have z0 : w9.cell? ⟨g + 1 + 1, 0, none⟩ = some (.int .i64 y.1.most) := hoc2.cell 0
    have z1 : w9.cell? ⟨g + 1 + 1, 1, none⟩ = some (.int .i64 y.1.credit) := hoc2.cell 1
    have z2 : w9.cell? ⟨g + 1 + 1, 2, none⟩ = some (.int .i64 y.1.state) := hoc2.cell 2
    have z3 : w9.cell? ⟨g + 1 + 1, 3, none⟩ = some (.int .i64 y.1.sq) := hoc2.cell 3
    have z4 : w9.cell? ⟨g + 1 + 1, 4, none⟩ = some (.int .i64 y.1.peer) := hoc2.cell 4
    have z5 : w9.cell? ⟨g + 1 + 1, 5, none⟩ = some (.int .i64 y.1.cc) := hoc2.cell 5
    have z6 : w9.cell? ⟨g + 1 + 1, 6, none⟩ = some (.int .i64 y.1.ms) := hoc2.cell 6
    have z7 : w9.cell? ⟨g + 1 + 1, 7, none⟩ = some (.string y.1.data) := hoc2.cell 7
    have y0 : w9.cell? ⟨g + 1 + 1 + 1, 0, none⟩ = some (.slice P.A1 y.2.sigs.length P.c1) := hor2.cell 0
    have y1 : w9.cell? ⟨g + 1 + 1 + 1, 1, none⟩ = some (.slice P.A2 y.2.units.length P.c2) := hor2.cell 1
    have y2 : w9.cell? ⟨g + 1 + 1 + 1, 2, none⟩ = some (.bool y.2.begins) := hor2.cell 2
    have y3 : w9.cell? ⟨g + 1 + 1 + 1, 3, none⟩ = some (.bool y.2.ends) := hor2.cell 3
    have y4 : w9.cell? ⟨g + 1 + 1 + 1, 4, none⟩ = some (.int .i64 y.2.ms) := hor2.cell 4
    have y5 : w9.cell? ⟨g + 1 + 1 + 1, 5, none⟩ = some (.int .i64 y.2.timer) := hor2.cell 5
    go_wp2
    exact bodyPost_ret (v := _) (by simp [results, Try.results37, go_sem, z0, z1, z2, z3, z4, z5, z6, z7, y0, y1, y2, y3, y4, y5]) rfl (HX.out _ rfl)

set_option maxHeartbeats 8000000 in
set_option maxRecDepth 100000 in
theorem step_ask {w : World} {c : Nat} {s : Cn.S} (h : ConnAt w c s) (ho : Cn.Ok s) (kind : Int) {y : Cn.SR} {er : Int} (hy : Cn.askS s kind { data := #[] } = y) (he : Cn.askErr s kind { data := #[] } = er) (hk : ROk y.2)
    (hreq : Hid (∀ (K : Nat → Prop) (w : World), (∀ k, K k → k < w.heap.size) → Calls Try.prog 53 #[rcV s, .int .i64 kind, .string { data := #[] }] w (RPost3 K 9 (Cn.askS s kind { data := #[] }) (Cn.askErr s kind { data := #[] }) w))) :
    Calls Try.prog 37 #[.pointer (some ⟨c, 0, none⟩), rcV s, actV 1 kind 0 0 0] w (StepPost c y w) := by
  unfold rcV actV at *
  have HY := Lib.hid hy
  have HK := Lib.hid hk
  have HER := Lib.hid he
  clear hy hk he
  obtain ⟨w1, q0⟩ : ∃ x : World, x = ((((w.alloc (.cells #[.int .i64 s.most, .int .i64 s.credit, .int .i64 s.state, .int .i64 s.sq, .int .i64 s.peer, .int .i64 s.cc, .int .i64 s.ms, .string s.data] 59)).alloc (.cells #[.int .i64 1, .int .i64 kind, .int .i64 0, .int .i64 0, .int .i64 0, .bool false, .string { data := #[] }] 85)).alloc (.cells #[.int .i64 0, .int .i64 0, .int .i64 0, .int .i64 0, .int .i64 0, .int .i64 0, .int .i64 0, .string { data := #[] }] 59)).alloc (.cells #[.slice none 0 0, .slice none 0 0, .bool false, .bool false, .int .i64 0, .int .i64 0] 90)) := ⟨_, rfl⟩
  have q_w1 := Lib.hid q0
  clear q0
  have HF1 : Hid (Fresh w w1) := by rw [q_w1.out]; exact ((((Touch.refl _ w).alloc _).alloc _).alloc _).alloc _
  have HBX1 : Hid (Blk w1 (w.heap.size) 59 [.int .i64 s.most, .int .i64 s.credit, .int .i64 s.state, .int .i64 s.sq, .int .i64 s.peer, .int .i64 s.cc, .int .i64 s.ms, .string s.data]) := by
    rw [q_w1.out]
    have := (((Blk.new w 59 [.int .i64 s.most, .int .i64 s.credit, .int .i64 s.state, .int .i64 s.sq, .int .i64 s.peer, .int .i64 s.cc, .int .i64 s.ms, .string s.data]).alloc (.cells #[.int .i64 1, .int .i64 kind, .int .i64 0, .int .i64 0, .int .i64 0, .bool false, .string { data := #[] }] 85)).alloc (.cells #[.int .i64 0, .int .i64 0, .int .i64 0, .int .i64 0, .int .i64 0, .int .i64 0, .int .i64 0, .string { data := #[] }] 59)).alloc (.cells #[.slice none 0 0, .slice none 0 0, .bool false, .bool false, .int .i64 0, .int .i64 0] 90)
    exact this
  have HBA1 : Hid (Blk w1 (w.heap.size + 1) 85 [.int .i64 1, .int .i64 kind, .int .i64 0, .int .i64 0, .int .i64 0, .bool false, .string { data := #[] }]) := by
    rw [q_w1.out]
    have := ((Blk.new (w.alloc (.cells #[.int .i64 s.most, .int .i64 s.credit, .int .i64 s.state, .int .i64 s.sq, .int .i64 s.peer, .int .i64 s.cc, .int .i64 s.ms, .string s.data] 59)) 85 [.int .i64 1, .int .i64 kind, .int .i64 0, .int .i64 0, .int .i64 0, .bool false, .string { data := #[] }]).alloc (.cells #[.int .i64 0, .int .i64 0, .int .i64 0, .int .i64 0, .int .i64 0, .int .i64 0, .int .i64 0, .string { data := #[] }] 59)).alloc (.cells #[.slice none 0 0, .slice none 0 0, .bool false, .bool false, .int .i64 0, .int .i64 0] 90)
    rwa [show (w.alloc (.cells #[.int .i64 s.most, .int .i64 s.credit, .int .i64 s.state, .int .i64 s.sq, .int .i64 s.peer, .int .i64 s.cc, .int .i64 s.ms, .string s.data] 59)).heap.size = w.heap.size + 1 by simp] at this
  have HBOC1 : Hid (Blk w1 (w.heap.size + 1 + 1) 59 [.int .i64 0, .int .i64 0, .int .i64 0, .int .i64 0, .int .i64 0, .int .i64 0, .int .i64 0, .string { data := #[] }]) := by
    rw [q_w1.out]
    have := (Blk.new ((w.alloc (.cells #[.int .i64 s.most, .int .i64 s.credit, .int .i64 s.state, .int .i64 s.sq, .int .i64 s.peer, .int .i64 s.cc, .int .i64 s.ms, .string s.data] 59)).alloc (.cells #[.int .i64 1, .int .i64 kind, .int .i64 0, .int .i64 0, .int .i64 0, .bool false, .string { data := #[] }] 85)) 59 [.int .i64 0, .int .i64 0, .int .i64 0, .int .i64 0, .int .i64 0, .int .i64 0, .int .i64 0, .string { data := #[] }]).alloc (.cells #[.slice none 0 0, .slice none 0 0, .bool false, .bool false, .int .i64 0, .int .i64 0] 90)
    rwa [show ((w.alloc (.cells #[.int .i64 s.most, .int .i64 s.credit, .int .i64 s.state, .int .i64 s.sq, .int .i64 s.peer, .int .i64 s.cc, .int .i64 s.ms, .string s.data] 59)).alloc (.cells #[.int .i64 1, .int .i64 kind, .int .i64 0, .int .i64 0, .int .i64 0, .bool false, .string { data := #[] }] 85)).heap.size = w.heap.size + 1 + 1 by simp] at this
  have HBOR1 : Hid (Blk w1 (w.heap.size + 1 + 1 + 1) 90 [.slice none 0 0, .slice none 0 0, .bool false, .bool false, .int .i64 0, .int .i64 0]) := by
    rw [q_w1.out]
    have := Blk.new (((w.alloc (.cells #[.int .i64 s.most, .int .i64 s.credit, .int .i64 s.state, .int .i64 s.sq, .int .i64 s.peer, .int .i64 s.cc, .int .i64 s.ms, .string s.data] 59)).alloc (.cells #[.int .i64 1, .int .i64 kind, .int .i64 0, .int .i64 0, .int .i64 0, .bool false, .string { data := #[] }] 85)).alloc (.cells #[.int .i64 0, .int .i64 0, .int .i64 0, .int .i64 0, .int .i64 0, .int .i64 0, .int .i64 0, .string { data := #[] }] 59)) 90 [.slice none 0 0, .slice none 0 0, .bool false, .bool false, .int .i64 0, .int .i64 0]
    rwa [show (((w.alloc (.cells #[.int .i64 s.most, .int .i64 s.credit, .int .i64 s.state, .int .i64 s.sq, .int .i64 s.peer, .int .i64 s.cc, .int .i64 s.ms, .string s.data] 59)).alloc (.cells #[.int .i64 1, .int .i64 kind, .int .i64 0, .int .i64 0, .int .i64 0, .bool false, .string { data := #[] }] 85)).alloc (.cells #[.int .i64 0, .int .i64 0, .int .i64 0, .int .i64 0, .int .i64 0, .int .i64 0, .int .i64 0, .string { data := #[] }] 59)).heap.size = w.heap.size + 1 + 1 + 1 by simp] at this
  have HCL : Hid (c < w.heap.size) := Blk.lt h
  have HC1 : Hid (ConnAt w1 c s) := HF1.out.blk h (fun e => e)
  have HO := Lib.hid ho
  clear h ho
  go_enter Try.func37, Try.ntmps37
  go_upto_region 1 with (fail)
  rw [← q_w1.out]
  clear q_w1
  have HGE : Hid (w.heap.size ≤ w.heap.size) := Nat.le_refl _
  generalize hgg : w.heap.size = g at *
  have HGG := Lib.hid hgg
  clear hgg HGE
  have xX0 : w1.cell? ⟨g, 0, none⟩ = some (.int .i64 s.most) := HBX1.out.cell 0
  have xX1 : w1.cell? ⟨g, 1, none⟩ = some (.int .i64 s.credit) := HBX1.out.cell 1
  have xX2 : w1.cell? ⟨g, 2, none⟩ = some (.int .i64 s.state) := HBX1.out.cell 2
  have xX3 : w1.cell? ⟨g, 3, none⟩ = some (.int .i64 s.sq) := HBX1.out.cell 3
  have xX4 : w1.cell? ⟨g, 4, none⟩ = some (.int .i64 s.peer) := HBX1.out.cell 4
  have xX5 : w1.cell? ⟨g, 5, none⟩ = some (.int .i64 s.cc) := HBX1.out.cell 5
  have xX6 : w1.cell? ⟨g, 6, none⟩ = some (.int .i64 s.ms) := HBX1.out.cell 6
  have xX7 : w1.cell? ⟨g, 7, none⟩ = some (.string s.data) := HBX1.out.cell 7
  have xA0 : w1.cell? ⟨g + 1, 0, none⟩ = some (.int .i64 1) := HBA1.out.cell 0
  have xA1 : w1.cell? ⟨g + 1, 1, none⟩ = some (.int .i64 kind) := HBA1.out.cell 1
  have xA2 : w1.cell? ⟨g + 1, 2, none⟩ = some (.int .i64 0) := HBA1.out.cell 2
  have xA3 : w1.cell? ⟨g + 1, 3, none⟩ = some (.int .i64 0) := HBA1.out.cell 3
  have xA4 : w1.cell? ⟨g + 1, 4, none⟩ = some (.int .i64 0) := HBA1.out.cell 4
  have xA5 : w1.cell? ⟨g + 1, 5, none⟩ = some (.bool false) := HBA1.out.cell 5
  have xA6 : w1.cell? ⟨g + 1, 6, none⟩ = some (.string { data := #[] }) := HBA1.out.cell 6
  go_wp2_with fail
  refine (cut_nil 70 (by decide) w1).mono ?_
  rintro e w1 ⟨rfl, rfl⟩
  simp only
  have HCLR : Hid (c < w1.heap.size) := Blk.lt HC1.out
  go_wp2_with fail
  refine (hreq.out (fun k => k < w1.heap.size) w1 (fun _ h => h)).mono ?_
  rw [HY.out, HER.out]
  rintro e w2 ⟨P, rfl, hr2, ht2⟩
  simp only [rcV, rrV]
  have f2 := ht2.toFresh
  have HR2 : Hid (RIn (fun k => k < w1.heap.size) 9 w2 P y.2) := hr2
  clear hr2 ht2
  have HBX2 := Lib.hid (f2.blk HBX1.out (fun e => e))
  have HBA2 := Lib.hid (f2.blk HBA1.out (fun e => e))
  have HBOC2 := Lib.hid (f2.blk HBOC1.out (fun e => e))
  have HBOR2 := Lib.hid (f2.blk HBOR1.out (fun e => e))
  have HF2 : Hid (Fresh w w2) := HF1.out.trans f2 (fun _ _ e => e)
  have HC2 : Hid (ConnAt w2 c s) := f2.blk HC1.out (fun e => e)
  clear xX0 xX1 xX2 xX3 xX4 xX5 xX6 xX7 xA0 xA1 xA2 xA3 xA4 xA5 xA6
  clear HBX1 HBA1 HBOC1 HBOR1 HF1 HC1
  clear f2
  go_upto_region 5 with (fail)
  obtain ⟨w3, q0⟩ : ∃ x : World, x = ((w2.alloc (.cells #[.int .i64 y.1.most, .int .i64 y.1.credit, .int .i64 y.1.state, .int .i64 y.1.sq, .int .i64 y.1.peer, .int .i64 y.1.cc, .int .i64 y.1.ms, .string y.1.data] 59)).alloc (.cells #[.slice P.A1 y.2.sigs.length P.c1, .slice P.A2 y.2.units.length P.c2, .bool y.2.begins, .bool y.2.ends, .int .i64 y.2.ms, .int .i64 y.2.timer] 90)) := ⟨_, rfl⟩
  have q_w3 := Lib.hid q0
  clear q0
  have hf3 : Fresh w2 w3 := by rw [q_w3.out]; exact ((Touch.refl _ w2).alloc _).alloc _
  have HBC3 : Hid (Blk w3 (w2.heap.size) 59 [.int .i64 y.1.most, .int .i64 y.1.credit, .int .i64 y.1.state, .int .i64 y.1.sq, .int .i64 y.1.peer, .int .i64 y.1.cc, .int .i64 y.1.ms, .string y.1.data]) := by
    rw [q_w3.out]
    have := (Blk.new w2 59 [.int .i64 y.1.most, .int .i64 y.1.credit, .int .i64 y.1.state, .int .i64 y.1.sq, .int .i64 y.1.peer, .int .i64 y.1.cc, .int .i64 y.1.ms, .string y.1.data]).alloc (.cells #[.slice P.A1 y.2.sigs.length P.c1, .slice P.A2 y.2.units.length P.c2, .bool y.2.begins, .bool y.2.ends, .int .i64 y.2.ms, .int .i64 y.2.timer] 90)
    exact this
  have HBR3 : Hid (Blk w3 (w2.heap.size + 1) 90 [.slice P.A1 y.2.sigs.length P.c1, .slice P.A2 y.2.units.length P.c2, .bool y.2.begins, .bool y.2.ends, .int .i64 y.2.ms, .int .i64 y.2.timer]) := by
    rw [q_w3.out]
    have := Blk.new (w2.alloc (.cells #[.int .i64 y.1.most, .int .i64 y.1.credit, .int .i64 y.1.state, .int .i64 y.1.sq, .int .i64 y.1.peer, .int .i64 y.1.cc, .int .i64 y.1.ms, .string y.1.data] 59)) 90 [.slice P.A1 y.2.sigs.length P.c1, .slice P.A2 y.2.units.length P.c2, .bool y.2.begins, .bool y.2.ends, .int .i64 y.2.ms, .int .i64 y.2.timer]
    rwa [show (w2.alloc (.cells #[.int .i64 y.1.most, .int .i64 y.1.credit, .int .i64 y.1.state, .int .i64 y.1.sq, .int .i64 y.1.peer, .int .i64 y.1.cc, .int .i64 y.1.ms, .string y.1.data] 59)).heap.size = w2.heap.size + 1 by simp] at this
  have HBX3 := Lib.hid (hf3.blk HBX2.out (fun e => e))
  have HBA3 := Lib.hid (hf3.blk HBA2.out (fun e => e))
  have HBOC3 := Lib.hid (hf3.blk HBOC2.out (fun e => e))
  have HBOR3 := Lib.hid (hf3.blk HBOR2.out (fun e => e))
  have HF3 : Hid (Fresh w w3) := HF2.out.trans hf3 (fun _ _ e => e)
  have HC3 : Hid (ConnAt w3 c s) := hf3.blk HC2.out (fun e => e)
  have HSZ3 : Hid (g + 1 + 1 + 1 < w2.heap.size) := HBOR2.out.lt
  have HR3 := Lib.hid (HR2.out.old hf3)
  clear HBX2 HBA2 HBOC2 HBOR2 HF2 HC2 hf3
  rw [← q_w3.out]
  clear q_w3
  generalize w2.heap.size = b3 at *
  clear HR2
  have xA0 : w3.cell? ⟨g + 1, 0, none⟩ = some (.int .i64 1) := HBA3.out.cell 0
  have xA1 : w3.cell? ⟨g + 1, 1, none⟩ = some (.int .i64 kind) := HBA3.out.cell 1
  have xA2 : w3.cell? ⟨g + 1, 2, none⟩ = some (.int .i64 0) := HBA3.out.cell 2
  have xA3 : w3.cell? ⟨g + 1, 3, none⟩ = some (.int .i64 0) := HBA3.out.cell 3
  have xA4 : w3.cell? ⟨g + 1, 4, none⟩ = some (.int .i64 0) := HBA3.out.cell 4
  have xA5 : w3.cell? ⟨g + 1, 5, none⟩ = some (.bool false) := HBA3.out.cell 5
  have xA6 : w3.cell? ⟨g + 1, 6, none⟩ = some (.string { data := #[] }) := HBA3.out.cell 6
  go_wp2_with fail
  refine (crequest_any HC3.out HO.out kind { data := #[] } (by unfold maxLen; decide)).mono ?_
  rw [HY.out, HER.out]
  rintro e w4 ⟨v, rfl, hp⟩
  have HSPP : Hid (∀ W, Fresh w4 W → _) := fun W hf => same_post hp HK.out ((HR3.out).touch hp.touch (fun k e => by have e : k = c := e; rw [e]; exact HCLR.out)) W hf
  have HCP4 := Lib.hid hp.conn
  have HOPP := Lib.hid hp.ok
  have HTP4 : Hid (Touch (· = c) w w4) := (HF3.out.mono (fun _ _ e => e.elim)).trans hp.touch (fun _ _ e => e)
  obtain ⟨A1, c1, A2, c2, rfl, _, _, _, _⟩ := hp.res
  have HBX4 := Lib.hid (hp.touch.blk HBX3.out (by intro e; have e : g = c := e; have := HCL.out; have := HSZ3.out; omega))
  have HBA4 := Lib.hid (hp.touch.blk HBA3.out (by intro e; have e : g + 1 = c := e; have := HCL.out; have := HSZ3.out; omega))
  have HBOC4 := Lib.hid (hp.touch.blk HBOC3.out (by intro e; have e : g + 1 + 1 = c := e; have := HCL.out; have := HSZ3.out; omega))
  have HBOR4 := Lib.hid (hp.touch.blk HBOR3.out (by intro e; have e : g + 1 + 1 + 1 = c := e; have := HCL.out; have := HSZ3.out; omega))
  have HBC4 := Lib.hid (hp.touch.blk HBC3.out (by intro e; have e : b3 = c := e; have := HCL.out; have := HSZ3.out; omega))
  have HBR4 := Lib.hid (hp.touch.blk HBR3.out (by intro e; have e : b3 + 1 = c := e; have := HCL.out; have := HSZ3.out; omega))
  clear xA0 xA1 xA2 xA3 xA4 xA5 xA6
  clear hp HBX3 HBA3 HBOC3 HBOR3 HBC3 HBR3 HF3 HC3 HR3
  go_upto_region 6 with (fail)
  have hf5 : Fresh w4 (w4.alloc (.cells #[.slice A1 y.2.sigs.length c1, .slice A2 y.2.units.length c2, .bool y.2.begins, .bool y.2.ends, .int .u32 y.2.ms, .int .i64 y.2.timer] 41)) := (Touch.refl _ _).alloc _
  have HBG5 : Hid (Blk (w4.alloc (.cells #[.slice A1 y.2.sigs.length c1, .slice A2 y.2.units.length c2, .bool y.2.begins, .bool y.2.ends, .int .u32 y.2.ms, .int .i64 y.2.timer] 41)) w4.heap.size 41 [.slice A1 y.2.sigs.length c1, .slice A2 y.2.units.length c2, .bool y.2.begins, .bool y.2.ends, .int .u32 y.2.ms, .int .i64 y.2.timer]) := Blk.new _ _ _
  have HBX5 := Lib.hid (hf5.blk HBX4.out (fun e => e))
  have HBA5 := Lib.hid (hf5.blk HBA4.out (fun e => e))
  have HBOC5 := Lib.hid (hf5.blk HBOC4.out (fun e => e))
  have HBOR5 := Lib.hid (hf5.blk HBOR4.out (fun e => e))
  have HBC5 := Lib.hid (hf5.blk HBC4.out (fun e => e))
  have HBR5 := Lib.hid (hf5.blk HBR4.out (fun e => e))
  have HCP : Hid (ConnAt (w4.alloc (.cells #[.slice A1 y.2.sigs.length c1, .slice A2 y.2.units.length c2, .bool y.2.begins, .bool y.2.ends, .int .u32 y.2.ms, .int .i64 y.2.timer] 41)) c y.1) := hf5.blk HCP4.out (fun e => e)
  have HTP : Hid (Touch (· = c) w (w4.alloc (.cells #[.slice A1 y.2.sigs.length c1, .slice A2 y.2.units.length c2, .bool y.2.begins, .bool y.2.ends, .int .u32 y.2.ms, .int .i64 y.2.timer] 41))) := HTP4.out.trans hf5 (fun _ _ e => e.elim)
  have HSP : Hid (∀ W, Fresh (w4.alloc (.cells #[.slice A1 y.2.sigs.length c1, .slice A2 y.2.units.length c2, .bool y.2.begins, .bool y.2.ends, .int .u32 y.2.ms, .int .i64 y.2.timer] 41)) W → _) := fun W hf => HSPP.out W (hf5.trans hf (fun _ _ e => e))
  have HSZ5 : Hid (g + 1 + 1 + 1 < w4.heap.size) := HBOR4.out.lt
  clear HSPP hf5 HCP4 HTP4 HBX4 HBA4 HBOC4 HBOR4 HBC4 HBR4
  generalize (w4.alloc (.cells #[.slice A1 y.2.sigs.length c1, .slice A2 y.2.units.length c2, .bool y.2.begins, .bool y.2.ends, .int .u32 y.2.ms, .int .i64 y.2.timer] 41)) = w5 at *
  generalize w4.heap.size = b5 at *
  have KEEP : Hid (∀ wx, Touch (fun k => k = c ∨ k = g + 1 + 1 ∨ k = g + 1 + 1 + 1) w5 wx → wx.cell? ⟨b3, 0, none⟩ = some (.int .i64 y.1.most) ∧ wx.cell? ⟨b3, 1, none⟩ = some (.int .i64 y.1.credit) ∧ wx.cell? ⟨b3, 2, none⟩ = some (.int .i64 y.1.state) ∧ wx.cell? ⟨b3, 3, none⟩ = some (.int .i64 y.1.sq) ∧ wx.cell? ⟨b3, 4, none⟩ = some (.int .i64 y.1.peer) ∧ wx.cell? ⟨b3, 5, none⟩ = some (.int .i64 y.1.cc) ∧ wx.cell? ⟨b3, 6, none⟩ = some (.int .i64 y.1.ms) ∧ wx.cell? ⟨b3, 7, none⟩ = some (.string y.1.data) ∧ wx.cell? ⟨b3 + 1, 0, none⟩ = some (.slice P.A1 y.2.sigs.length P.c1) ∧ wx.cell? ⟨b3 + 1, 1, none⟩ = some (.slice P.A2 y.2.units.length P.c2) ∧ wx.cell? ⟨b3 + 1, 2, none⟩ = some (.bool y.2.begins) ∧ wx.cell? ⟨b3 + 1, 3, none⟩ = some (.bool y.2.ends) ∧ wx.cell? ⟨b3 + 1, 4, none⟩ = some (.int .i64 y.2.ms) ∧ wx.cell? ⟨b3 + 1, 5, none⟩ = some (.int .i64 y.2.timer) ∧ wx.cell? ⟨b5, 0, none⟩ = some (.slice A1 y.2.sigs.length c1) ∧ wx.cell? ⟨b5, 1, none⟩ = some (.slice A2 y.2.units.length c2) ∧ wx.cell? ⟨b5, 2, none⟩ = some (.bool y.2.begins) ∧ wx.cell? ⟨b5, 3, none⟩ = some (.bool y.2.ends) ∧ wx.cell? ⟨b5, 4, none⟩ = some (.int .u32 y.2.ms) ∧ wx.cell? ⟨b5, 5, none⟩ = some (.int .i64 y.2.timer)) := fun wx ht => by
    have hnC : ¬ (b3 = c ∨ b3 = g + 1 + 1 ∨ b3 = g + 1 + 1 + 1) := by have := HCL.out; have := HSZ3.out; have := HSZ5.out; omega
    have hnR : ¬ (b3 + 1 = c ∨ b3 + 1 = g + 1 + 1 ∨ b3 + 1 = g + 1 + 1 + 1) := by have := HCL.out; have := HSZ3.out; have := HSZ5.out; omega
    have hnG : ¬ (b5 = c ∨ b5 = g + 1 + 1 ∨ b5 = g + 1 + 1 + 1) := by have := HCL.out; have := HSZ3.out; have := HSZ5.out; omega
    exact ⟨(ht.blk HBC5.out hnC).cell 0, (ht.blk HBC5.out hnC).cell 1, (ht.blk HBC5.out hnC).cell 2, (ht.blk HBC5.out hnC).cell 3, (ht.blk HBC5.out hnC).cell 4, (ht.blk HBC5.out hnC).cell 5, (ht.blk HBC5.out hnC).cell 6, (ht.blk HBC5.out hnC).cell 7, (ht.blk HBR5.out hnR).cell 0, (ht.blk HBR5.out hnR).cell 1, (ht.blk HBR5.out hnR).cell 2, (ht.blk HBR5.out hnR).cell 3, (ht.blk HBR5.out hnR).cell 4, (ht.blk HBR5.out hnR).cell 5, (ht.blk HBG5.out hnG).cell 0, (ht.blk HBG5.out hnG).cell 1, (ht.blk HBG5.out hnG).cell 2, (ht.blk HBG5.out hnG).cell 3, (ht.blk HBG5.out hnG).cell 4, (ht.blk HBG5.out hnG).cell 5⟩
  have ht0 : Touch (fun k => k = c ∨ k = g + 1 + 1 ∨ k = g + 1 + 1 + 1) w5 w5.drew := (Touch.refl _ _).drew
  have HNOC : Hid (¬ g + 1 + 1 = c) := by unfold Hid; have := HCL.out; omega
  have HNOR : Hid (¬ g + 1 + 1 + 1 = c) := by unfold Hid; have := HCL.out; omega
  have hbOC := Blk.drew HBOC5.out
  have hbOR := Blk.drew HBOR5.out
  have hcp : ConnAt w5.drew c y.1 := Blk.drew HCP.out
  have hop := HOPP.out
  have htp : Touch (· = c) w w5.drew := HTP.out.drew
  have ht7 := ht0
  have hsp := fun W (hf : Fresh w5.drew W) => HSP.out W ((Touch.refl _ _).drew.trans hf (fun _ _ e => e))
  go_region_held3 (fun wx => wx.cell? ⟨b3, 0, none⟩ = some (.int .i64 y.1.most) ∧ wx.cell? ⟨b3, 1, none⟩ = some (.int .i64 y.1.credit) ∧ wx.cell? ⟨b3, 2, none⟩ = some (.int .i64 y.1.state) ∧ wx.cell? ⟨b3, 3, none⟩ = some (.int .i64 y.1.sq) ∧ wx.cell? ⟨b3, 4, none⟩ = some (.int .i64 y.1.peer) ∧ wx.cell? ⟨b3, 5, none⟩ = some (.int .i64 y.1.cc) ∧ wx.cell? ⟨b3, 6, none⟩ = some (.int .i64 y.1.ms) ∧ wx.cell? ⟨b3, 7, none⟩ = some (.string y.1.data) ∧ wx.cell? ⟨b3 + 1, 0, none⟩ = some (.slice P.A1 y.2.sigs.length P.c1) ∧ wx.cell? ⟨b3 + 1, 1, none⟩ = some (.slice P.A2 y.2.units.length P.c2) ∧ wx.cell? ⟨b3 + 1, 2, none⟩ = some (.bool y.2.begins) ∧ wx.cell? ⟨b3 + 1, 3, none⟩ = some (.bool y.2.ends) ∧ wx.cell? ⟨b3 + 1, 4, none⟩ = some (.int .i64 y.2.ms) ∧ wx.cell? ⟨b3 + 1, 5, none⟩ = some (.int .i64 y.2.timer) ∧ wx.cell? ⟨b5, 0, none⟩ = some (.slice A1 y.2.sigs.length c1) ∧ wx.cell? ⟨b5, 1, none⟩ = some (.slice A2 y.2.units.length c2) ∧ wx.cell? ⟨b5, 2, none⟩ = some (.bool y.2.begins) ∧ wx.cell? ⟨b5, 3, none⟩ = some (.bool y.2.ends) ∧ wx.cell? ⟨b5, 4, none⟩ = some (.int .u32 y.2.ms) ∧ wx.cell? ⟨b5, 5, none⟩ = some (.int .i64 y.2.timer))
    (first
      | with_reducible exact KEEP.out _ (by with_reducible assumption)
      | exact KEEP.out _ (by repeat (first | with_reducible assumption | refine Touch.st ?_ (by first | exact Or.inr (Or.inl rfl) | exact Or.inr (Or.inr rfl))))
      | with_reducible assumption)
    (first
      | (go_simp; go_at_call 54; refine (hsp _ (Touch.refl _ _)).mono ?_; rintro e8 w8 ⟨rfl, f8⟩; have ht8 := ht7.trans f8 (fun _ _ e => e.elim); have HB8OC := Lib.hid (f8.blk hbOC (fun e => e)); have HB8OR := Lib.hid (f8.blk hbOR (fun e => e)); have HC8 : Hid (ConnAt w8 c y.1) := f8.blk hcp (fun e => e); have HT8 : Hid (Touch (· = c) w w8) := htp.trans f8 (fun _ _ e => e.elim); have HOP := Lib.hid hop; clear hsp hcp hop htp hbOC hbOR f8; have zOC0 : w8.cell? ⟨g + 1 + 1, 0, none⟩ = some (.int .i64 0) := HB8OC.out.cell 0; have fOC0 := HB8OC.out.frozen 0; have zOC1 : w8.cell? ⟨g + 1 + 1, 1, none⟩ = some (.int .i64 0) := HB8OC.out.cell 1; have fOC1 := HB8OC.out.frozen 1; have zOC2 : w8.cell? ⟨g + 1 + 1, 2, none⟩ = some (.int .i64 0) := HB8OC.out.cell 2; have fOC2 := HB8OC.out.frozen 2; have zOC3 : w8.cell? ⟨g + 1 + 1, 3, none⟩ = some (.int .i64 0) := HB8OC.out.cell 3; have fOC3 := HB8OC.out.frozen 3; have zOC4 : w8.cell? ⟨g + 1 + 1, 4, none⟩ = some (.int .i64 0) := HB8OC.out.cell 4; have fOC4 := HB8OC.out.frozen 4; have zOC5 : w8.cell? ⟨g + 1 + 1, 5, none⟩ = some (.int .i64 0) := HB8OC.out.cell 5; have fOC5 := HB8OC.out.frozen 5; have zOC6 : w8.cell? ⟨g + 1 + 1, 6, none⟩ = some (.int .i64 0) := HB8OC.out.cell 6; have fOC6 := HB8OC.out.frozen 6; have zOC7 : w8.cell? ⟨g + 1 + 1, 7, none⟩ = some (.string { data := #[] }) := HB8OC.out.cell 7; have fOC7 := HB8OC.out.frozen 7; have zOR0 : w8.cell? ⟨g + 1 + 1 + 1, 0, none⟩ = some (.slice none 0 0) := HB8OR.out.cell 0; have fOR0 := HB8OR.out.frozen 0; have zOR1 : w8.cell? ⟨g + 1 + 1 + 1, 1, none⟩ = some (.slice none 0 0) := HB8OR.out.cell 1; have fOR1 := HB8OR.out.frozen 1; have zOR2 : w8.cell? ⟨g + 1 + 1 + 1, 2, none⟩ = some (.bool false) := HB8OR.out.cell 2; have fOR2 := HB8OR.out.frozen 2; have zOR3 : w8.cell? ⟨g + 1 + 1 + 1, 3, none⟩ = some (.bool false) := HB8OR.out.cell 3; have fOR3 := HB8OR.out.frozen 3; have zOR4 : w8.cell? ⟨g + 1 + 1 + 1, 4, none⟩ = some (.int .i64 0) := HB8OR.out.cell 4; have fOR4 := HB8OR.out.frozen 4; have zOR5 : w8.cell? ⟨g + 1 + 1 + 1, 5, none⟩ = some (.int .i64 0) := HB8OR.out.cell 5; have fOR5 := HB8OR.out.frozen 5))
  all_goals
    rename_i hH
    clear hH
    have ta : Touch (· = g + 1 + 1) w8 ((((((((w8.setCell ⟨g + 1 + 1, 0, none⟩ (.int .i64 y.1.most)).setCell ⟨g + 1 + 1, 1, none⟩ (.int .i64 y.1.credit)).setCell ⟨g + 1 + 1, 2, none⟩ (.int .i64 y.1.state)).setCell ⟨g + 1 + 1, 3, none⟩ (.int .i64 y.1.sq)).setCell ⟨g + 1 + 1, 4, none⟩ (.int .i64 y.1.peer)).setCell ⟨g + 1 + 1, 5, none⟩ (.int .i64 y.1.cc)).setCell ⟨g + 1 + 1, 6, none⟩ (.int .i64 y.1.ms)).setCell ⟨g + 1 + 1, 7, none⟩ (.string y.1.data)) := (((((((((Touch.refl _ w8).st (S := (· = g + 1 + 1)) (u := .int .i64 y.1.most) (by exact rfl)).st (S := (· = g + 1 + 1)) (u := .int .i64 y.1.credit) (by exact rfl)).st (S := (· = g + 1 + 1)) (u := .int .i64 y.1.state) (by exact rfl)).st (S := (· = g + 1 + 1)) (u := .int .i64 y.1.sq) (by exact rfl)).st (S := (· = g + 1 + 1)) (u := .int .i64 y.1.peer) (by exact rfl)).st (S := (· = g + 1 + 1)) (u := .int .i64 y.1.cc) (by exact rfl)).st (S := (· = g + 1 + 1)) (u := .int .i64 y.1.ms) (by exact rfl)).st (S := (· = g + 1 + 1)) (u := .string y.1.data) (by exact rfl))
    have hoc : Blk ((((((((w8.setCell ⟨g + 1 + 1, 0, none⟩ (.int .i64 y.1.most)).setCell ⟨g + 1 + 1, 1, none⟩ (.int .i64 y.1.credit)).setCell ⟨g + 1 + 1, 2, none⟩ (.int .i64 y.1.state)).setCell ⟨g + 1 + 1, 3, none⟩ (.int .i64 y.1.sq)).setCell ⟨g + 1 + 1, 4, none⟩ (.int .i64 y.1.peer)).setCell ⟨g + 1 + 1, 5, none⟩ (.int .i64 y.1.cc)).setCell ⟨g + 1 + 1, 6, none⟩ (.int .i64 y.1.ms)).setCell ⟨g + 1 + 1, 7, none⟩ (.string y.1.data)) (g + 1 + 1) 59 [.int .i64 y.1.most, .int .i64 y.1.credit, .int .i64 y.1.state, .int .i64 y.1.sq, .int .i64 y.1.peer, .int .i64 y.1.cc, .int .i64 y.1.ms, .string y.1.data] := ((((((((HB8OC.out.set 0 (.int .i64 y.1.most)).set 1 (.int .i64 y.1.credit)).set 2 (.int .i64 y.1.state)).set 3 (.int .i64 y.1.sq)).set 4 (.int .i64 y.1.peer)).set 5 (.int .i64 y.1.cc)).set 6 (.int .i64 y.1.ms)).set 7 (.string y.1.data))
    have hor := ta.blk HB8OR.out (by intro e; have e : g + 1 + 1 + 1 = g + 1 + 1 := e; omega)
    obtain ⟨w9, q0⟩ : ∃ x : World, x = ((((((((((((((w8.setCell ⟨g + 1 + 1, 0, none⟩ (.int .i64 y.1.most)).setCell ⟨g + 1 + 1, 1, none⟩ (.int .i64 y.1.credit)).setCell ⟨g + 1 + 1, 2, none⟩ (.int .i64 y.1.state)).setCell ⟨g + 1 + 1, 3, none⟩ (.int .i64 y.1.sq)).setCell ⟨g + 1 + 1, 4, none⟩ (.int .i64 y.1.peer)).setCell ⟨g + 1 + 1, 5, none⟩ (.int .i64 y.1.cc)).setCell ⟨g + 1 + 1, 6, none⟩ (.int .i64 y.1.ms)).setCell ⟨g + 1 + 1, 7, none⟩ (.string y.1.data)).setCell ⟨g + 1 + 1 + 1, 0, none⟩ (.slice P.A1 y.2.sigs.length P.c1)).setCell ⟨g + 1 + 1 + 1, 1, none⟩ (.slice P.A2 y.2.units.length P.c2)).setCell ⟨g + 1 + 1 + 1, 2, none⟩ (.bool y.2.begins)).setCell ⟨g + 1 + 1 + 1, 3, none⟩ (.bool y.2.ends)).setCell ⟨g + 1 + 1 + 1, 4, none⟩ (.int .i64 y.2.ms)).setCell ⟨g + 1 + 1 + 1, 5, none⟩ (.int .i64 y.2.timer)) := ⟨_, rfl⟩
    have q_w9 := Lib.hid q0
    clear q0
    have tb : Touch (· = g + 1 + 1 + 1) ((((((((w8.setCell ⟨g + 1 + 1, 0, none⟩ (.int .i64 y.1.most)).setCell ⟨g + 1 + 1, 1, none⟩ (.int .i64 y.1.credit)).setCell ⟨g + 1 + 1, 2, none⟩ (.int .i64 y.1.state)).setCell ⟨g + 1 + 1, 3, none⟩ (.int .i64 y.1.sq)).setCell ⟨g + 1 + 1, 4, none⟩ (.int .i64 y.1.peer)).setCell ⟨g + 1 + 1, 5, none⟩ (.int .i64 y.1.cc)).setCell ⟨g + 1 + 1, 6, none⟩ (.int .i64 y.1.ms)).setCell ⟨g + 1 + 1, 7, none⟩ (.string y.1.data)) w9 := by rw [q_w9.out]; exact (((((((Touch.refl _ ((((((((w8.setCell ⟨g + 1 + 1, 0, none⟩ (.int .i64 y.1.most)).setCell ⟨g + 1 + 1, 1, none⟩ (.int .i64 y.1.credit)).setCell ⟨g + 1 + 1, 2, none⟩ (.int .i64 y.1.state)).setCell ⟨g + 1 + 1, 3, none⟩ (.int .i64 y.1.sq)).setCell ⟨g + 1 + 1, 4, none⟩ (.int .i64 y.1.peer)).setCell ⟨g + 1 + 1, 5, none⟩ (.int .i64 y.1.cc)).setCell ⟨g + 1 + 1, 6, none⟩ (.int .i64 y.1.ms)).setCell ⟨g + 1 + 1, 7, none⟩ (.string y.1.data))).st (S := (· = g + 1 + 1 + 1)) (u := .slice P.A1 y.2.sigs.length P.c1) (by exact rfl)).st (S := (· = g + 1 + 1 + 1)) (u := .slice P.A2 y.2.units.length P.c2) (by exact rfl)).st (S := (· = g + 1 + 1 + 1)) (u := .bool y.2.begins) (by exact rfl)).st (S := (· = g + 1 + 1 + 1)) (u := .bool y.2.ends) (by exact rfl)).st (S := (· = g + 1 + 1 + 1)) (u := .int .i64 y.2.ms) (by exact rfl)).st (S := (· = g + 1 + 1 + 1)) (u := .int .i64 y.2.timer) (by exact rfl))
    have hor2 : Blk w9 (g + 1 + 1 + 1) 90 [.slice P.A1 y.2.sigs.length P.c1, .slice P.A2 y.2.units.length P.c2, .bool y.2.begins, .bool y.2.ends, .int .i64 y.2.ms, .int .i64 y.2.timer] := by rw [q_w9.out]; exact ((((((hor.set 0 (.slice P.A1 y.2.sigs.length P.c1)).set 1 (.slice P.A2 y.2.units.length P.c2)).set 2 (.bool y.2.begins)).set 3 (.bool y.2.ends)).set 4 (.int .i64 y.2.ms)).set 5 (.int .i64 y.2.timer))
    have hoc2 := tb.blk hoc (by intro e; have e : g + 1 + 1 = g + 1 + 1 + 1 := e; omega)
    have hc9 : ConnAt w9 c y.1 := tb.blk (ta.blk HC8.out (by intro e; have e : c = g + 1 + 1 := e; have := HCL.out; omega)) (by intro e; have e : c = g + 1 + 1 + 1 := e; have := HCL.out; omega)
    have ht9 : Touch (· = c) w w9 := (HT8.out.trans ta (fun k hk e => by have e : k = g + 1 + 1 := e; have := HGG.out; omega)).trans tb (fun k hk e => by have e : k = g + 1 + 1 + 1 := e; have := HGG.out; omega)
    have HX : Hid (∀ e, e = .returned (.tuple #[.agg #[.int .i64 y.1.most, .int .i64 y.1.credit, .int .i64 y.1.state, .int .i64 y.1.sq, .int .i64 y.1.peer, .int .i64 y.1.cc, .int .i64 y.1.ms, .string y.1.data], .agg #[.slice P.A1 y.2.sigs.length P.c1, .slice P.A2 y.2.units.length P.c2, .bool y.2.begins, .bool y.2.ends, .int .i64 y.2.ms, .int .i64 y.2.timer], .bool true]) → StepPost c y w e w9) := fun e he => ⟨P, he, hc9, HOP.out, ht9⟩
    clear ta tb hoc hor hc9 ht9 zOC0 fOC0 zOC1 fOC1 zOC2 fOC2 zOC3 fOC3 zOC4 fOC4 zOC5 fOC5 zOC6 fOC6 zOC7 fOC7 zOR0 fOR0 zOR1 fOR1 zOR2 fOR2 zOR3 fOR3 zOR4 fOR4 zOR5 fOR5
    rw [← q_w9.out]
    clear q_w9
    have z0 : w9.cell? ⟨g + 1 + 1, 0, none⟩ = some (.int .i64 y.1.most) := hoc2.cell 0
    have z1 : w9.cell? ⟨g + 1 + 1, 1, none⟩ = some (.int .i64 y.1.credit) := hoc2.cell 1
    have z2 : w9.cell? ⟨g + 1 + 1, 2, none⟩ = some (.int .i64 y.1.state) := hoc2.cell 2
    have z3 : w9.cell? ⟨g + 1 + 1, 3, none⟩ = some (.int .i64 y.1.sq) := hoc2.cell 3
    have z4 : w9.cell? ⟨g + 1 + 1, 4, none⟩ = some (.int .i64 y.1.peer) := hoc2.cell 4
    have z5 : w9.cell? ⟨g + 1 + 1, 5, none⟩ = some (.int .i64 y.1.cc) := hoc2.cell 5
    have z6 : w9.cell? ⟨g + 1 + 1, 6, none⟩ = some (.int .i64 y.1.ms) := hoc2.cell 6
    have z7 : w9.cell? ⟨g + 1 + 1, 7, none⟩ = some (.string y.1.data) := hoc2.cell 7
    have y0 : w9.cell? ⟨g + 1 + 1 + 1, 0, none⟩ = some (.slice P.A1 y.2.sigs.length P.c1) := hor2.cell 0
    have y1 : w9.cell? ⟨g + 1 + 1 + 1, 1, none⟩ = some (.slice P.A2 y.2.units.length P.c2) := hor2.cell 1
    have y2 : w9.cell? ⟨g + 1 + 1 + 1, 2, none⟩ = some (.bool y.2.begins) := hor2.cell 2
    have y3 : w9.cell? ⟨g + 1 + 1 + 1, 3, none⟩ = some (.bool y.2.ends) := hor2.cell 3
    have y4 : w9.cell? ⟨g + 1 + 1 + 1, 4, none⟩ = some (.int .i64 y.2.ms) := hor2.cell 4
    have y5 : w9.cell? ⟨g + 1 + 1 + 1, 5, none⟩ = some (.int .i64 y.2.timer) := hor2.cell 5
    go_wp2
    exact bodyPost_ret (v := _) (by simp [results, Try.results37, go_sem, z0, z1, z2, z3, z4, z5, z6, z7, y0, y1, y2, y3, y4, y5]) rfl (HX.out _ rfl)

set_option maxHeartbeats 8000000 in
set_option maxRecDepth 100000 in
theorem step_fail {w : World} {c : Nat} {s : Cn.S} (h : ConnAt w c s) (ho : Cn.Ok s) {y : Cn.SR} (hy : Cn.failS s 81 = y) (hk : ROk y.2) :
    Calls Try.prog 37 #[.pointer (some ⟨c, 0, none⟩), rcV s, actV 3 81 0 0 0] w (StepPost c y w) := by
  unfold rcV actV at *
  have HY := Lib.hid hy
  have HK := Lib.hid hk
  clear hy hk
  obtain ⟨w1, q0⟩ : ∃ x : World, x = ((((w.alloc (.cells #[.int .i64 s.most, .int .i64 s.credit, .int .i64 s.state, .int .i64 s.sq, .int .i64 s.peer, .int .i64 s.cc, .int .i64 s.ms, .string s.data] 59)).alloc (.cells #[.int .i64 3, .int .i64 81, .int .i64 0, .int .i64 0, .int .i64 0, .bool false, .string { data := #[] }] 85)).alloc (.cells #[.int .i64 0, .int .i64 0, .int .i64 0, .int .i64 0, .int .i64 0, .int .i64 0, .int .i64 0, .string { data := #[] }] 59)).alloc (.cells #[.slice none 0 0, .slice none 0 0, .bool false, .bool false, .int .i64 0, .int .i64 0] 90)) := ⟨_, rfl⟩
  have q_w1 := Lib.hid q0
  clear q0
  have HF1 : Hid (Fresh w w1) := by rw [q_w1.out]; exact ((((Touch.refl _ w).alloc _).alloc _).alloc _).alloc _
  have HBX1 : Hid (Blk w1 (w.heap.size) 59 [.int .i64 s.most, .int .i64 s.credit, .int .i64 s.state, .int .i64 s.sq, .int .i64 s.peer, .int .i64 s.cc, .int .i64 s.ms, .string s.data]) := by
    rw [q_w1.out]
    have := (((Blk.new w 59 [.int .i64 s.most, .int .i64 s.credit, .int .i64 s.state, .int .i64 s.sq, .int .i64 s.peer, .int .i64 s.cc, .int .i64 s.ms, .string s.data]).alloc (.cells #[.int .i64 3, .int .i64 81, .int .i64 0, .int .i64 0, .int .i64 0, .bool false, .string { data := #[] }] 85)).alloc (.cells #[.int .i64 0, .int .i64 0, .int .i64 0, .int .i64 0, .int .i64 0, .int .i64 0, .int .i64 0, .string { data := #[] }] 59)).alloc (.cells #[.slice none 0 0, .slice none 0 0, .bool false, .bool false, .int .i64 0, .int .i64 0] 90)
    exact this
  have HBA1 : Hid (Blk w1 (w.heap.size + 1) 85 [.int .i64 3, .int .i64 81, .int .i64 0, .int .i64 0, .int .i64 0, .bool false, .string { data := #[] }]) := by
    rw [q_w1.out]
    have := ((Blk.new (w.alloc (.cells #[.int .i64 s.most, .int .i64 s.credit, .int .i64 s.state, .int .i64 s.sq, .int .i64 s.peer, .int .i64 s.cc, .int .i64 s.ms, .string s.data] 59)) 85 [.int .i64 3, .int .i64 81, .int .i64 0, .int .i64 0, .int .i64 0, .bool false, .string { data := #[] }]).alloc (.cells #[.int .i64 0, .int .i64 0, .int .i64 0, .int .i64 0, .int .i64 0, .int .i64 0, .int .i64 0, .string { data := #[] }] 59)).alloc (.cells #[.slice none 0 0, .slice none 0 0, .bool false, .bool false, .int .i64 0, .int .i64 0] 90)
    rwa [show (w.alloc (.cells #[.int .i64 s.most, .int .i64 s.credit, .int .i64 s.state, .int .i64 s.sq, .int .i64 s.peer, .int .i64 s.cc, .int .i64 s.ms, .string s.data] 59)).heap.size = w.heap.size + 1 by simp] at this
  have HBOC1 : Hid (Blk w1 (w.heap.size + 1 + 1) 59 [.int .i64 0, .int .i64 0, .int .i64 0, .int .i64 0, .int .i64 0, .int .i64 0, .int .i64 0, .string { data := #[] }]) := by
    rw [q_w1.out]
    have := (Blk.new ((w.alloc (.cells #[.int .i64 s.most, .int .i64 s.credit, .int .i64 s.state, .int .i64 s.sq, .int .i64 s.peer, .int .i64 s.cc, .int .i64 s.ms, .string s.data] 59)).alloc (.cells #[.int .i64 3, .int .i64 81, .int .i64 0, .int .i64 0, .int .i64 0, .bool false, .string { data := #[] }] 85)) 59 [.int .i64 0, .int .i64 0, .int .i64 0, .int .i64 0, .int .i64 0, .int .i64 0, .int .i64 0, .string { data := #[] }]).alloc (.cells #[.slice none 0 0, .slice none 0 0, .bool false, .bool false, .int .i64 0, .int .i64 0] 90)
    rwa [show ((w.alloc (.cells #[.int .i64 s.most, .int .i64 s.credit, .int .i64 s.state, .int .i64 s.sq, .int .i64 s.peer, .int .i64 s.cc, .int .i64 s.ms, .string s.data] 59)).alloc (.cells #[.int .i64 3, .int .i64 81, .int .i64 0, .int .i64 0, .int .i64 0, .bool false, .string { data := #[] }] 85)).heap.size = w.heap.size + 1 + 1 by simp] at this
  have HBOR1 : Hid (Blk w1 (w.heap.size + 1 + 1 + 1) 90 [.slice none 0 0, .slice none 0 0, .bool false, .bool false, .int .i64 0, .int .i64 0]) := by
    rw [q_w1.out]
    have := Blk.new (((w.alloc (.cells #[.int .i64 s.most, .int .i64 s.credit, .int .i64 s.state, .int .i64 s.sq, .int .i64 s.peer, .int .i64 s.cc, .int .i64 s.ms, .string s.data] 59)).alloc (.cells #[.int .i64 3, .int .i64 81, .int .i64 0, .int .i64 0, .int .i64 0, .bool false, .string { data := #[] }] 85)).alloc (.cells #[.int .i64 0, .int .i64 0, .int .i64 0, .int .i64 0, .int .i64 0, .int .i64 0, .int .i64 0, .string { data := #[] }] 59)) 90 [.slice none 0 0, .slice none 0 0, .bool false, .bool false, .int .i64 0, .int .i64 0]
    rwa [show (((w.alloc (.cells #[.int .i64 s.most, .int .i64 s.credit, .int .i64 s.state, .int .i64 s.sq, .int .i64 s.peer, .int .i64 s.cc, .int .i64 s.ms, .string s.data] 59)).alloc (.cells #[.int .i64 3, .int .i64 81, .int .i64 0, .int .i64 0, .int .i64 0, .bool false, .string { data := #[] }] 85)).alloc (.cells #[.int .i64 0, .int .i64 0, .int .i64 0, .int .i64 0, .int .i64 0, .int .i64 0, .int .i64 0, .string { data := #[] }] 59)).heap.size = w.heap.size + 1 + 1 + 1 by simp] at this
  have HCL : Hid (c < w.heap.size) := Blk.lt h
  have HC1 : Hid (ConnAt w1 c s) := HF1.out.blk h (fun e => e)
  have HO := Lib.hid ho
  clear h ho
  go_enter Try.func37, Try.ntmps37
  go_upto_region 1 with (fail)
  rw [← q_w1.out]
  clear q_w1
  have HGE : Hid (w.heap.size ≤ w.heap.size) := Nat.le_refl _
  generalize hgg : w.heap.size = g at *
  have HGG := Lib.hid hgg
  clear hgg HGE
  have HCLR : Hid (c < w1.heap.size) := Blk.lt HC1.out
  have xX0 : w1.cell? ⟨g, 0, none⟩ = some (.int .i64 s.most) := HBX1.out.cell 0
  have xX1 : w1.cell? ⟨g, 1, none⟩ = some (.int .i64 s.credit) := HBX1.out.cell 1
  have xX2 : w1.cell? ⟨g, 2, none⟩ = some (.int .i64 s.state) := HBX1.out.cell 2
  have xX3 : w1.cell? ⟨g, 3, none⟩ = some (.int .i64 s.sq) := HBX1.out.cell 3
  have xX4 : w1.cell? ⟨g, 4, none⟩ = some (.int .i64 s.peer) := HBX1.out.cell 4
  have xX5 : w1.cell? ⟨g, 5, none⟩ = some (.int .i64 s.cc) := HBX1.out.cell 5
  have xX6 : w1.cell? ⟨g, 6, none⟩ = some (.int .i64 s.ms) := HBX1.out.cell 6
  have xX7 : w1.cell? ⟨g, 7, none⟩ = some (.string s.data) := HBX1.out.cell 7
  have xA0 : w1.cell? ⟨g + 1, 0, none⟩ = some (.int .i64 3) := HBA1.out.cell 0
  have xA1 : w1.cell? ⟨g + 1, 1, none⟩ = some (.int .i64 81) := HBA1.out.cell 1
  have xA2 : w1.cell? ⟨g + 1, 2, none⟩ = some (.int .i64 0) := HBA1.out.cell 2
  have xA3 : w1.cell? ⟨g + 1, 3, none⟩ = some (.int .i64 0) := HBA1.out.cell 3
  have xA4 : w1.cell? ⟨g + 1, 4, none⟩ = some (.int .i64 0) := HBA1.out.cell 4
  have xA5 : w1.cell? ⟨g + 1, 5, none⟩ = some (.bool false) := HBA1.out.cell 5
  have xA6 : w1.cell? ⟨g + 1, 6, none⟩ = some (.string { data := #[] }) := HBA1.out.cell 6
  go_wp2_with fail
  refine (rfail_any (K := fun k => k < w1.heap.size) (fun _ h => h) 81 ⟨HO.out.sq0, HO.out.sq1⟩).mono ?_
  rw [HY.out]
  rintro e w2 ⟨P, rfl, hr2, ht2⟩
  simp only [rcV, rrV]
  have f2 := ht2.toFresh
  have HR2 : Hid (RIn (fun k => k < w1.heap.size) 9 w2 P y.2) := hr2
  clear hr2 ht2
  have HBX2 := Lib.hid (f2.blk HBX1.out (fun e => e))
  have HBA2 := Lib.hid (f2.blk HBA1.out (fun e => e))
  have HBOC2 := Lib.hid (f2.blk HBOC1.out (fun e => e))
  have HBOR2 := Lib.hid (f2.blk HBOR1.out (fun e => e))
  have HF2 : Hid (Fresh w w2) := HF1.out.trans f2 (fun _ _ e => e)
  have HC2 : Hid (ConnAt w2 c s) := f2.blk HC1.out (fun e => e)
  clear xX0 xX1 xX2 xX3 xX4 xX5 xX6 xX7 xA0 xA1 xA2 xA3 xA4 xA5 xA6
  clear HBX1 HBA1 HBOC1 HBOR1 HF1 HC1
  clear f2
  go_upto_region 12 with (fail)
  obtain ⟨w3, q0⟩ : ∃ x : World, x = ((w2.alloc (.cells #[.int .i64 y.1.most, .int .i64 y.1.credit, .int .i64 y.1.state, .int .i64 y.1.sq, .int .i64 y.1.peer, .int .i64 y.1.cc, .int .i64 y.1.ms, .string y.1.data] 59)).alloc (.cells #[.slice P.A1 y.2.sigs.length P.c1, .slice P.A2 y.2.units.length P.c2, .bool y.2.begins, .bool y.2.ends, .int .i64 y.2.ms, .int .i64 y.2.timer] 90)) := ⟨_, rfl⟩
  have q_w3 := Lib.hid q0
  clear q0
  have hf3 : Fresh w2 w3 := by rw [q_w3.out]; exact ((Touch.refl _ w2).alloc _).alloc _
  have HBC3 : Hid (Blk w3 (w2.heap.size) 59 [.int .i64 y.1.most, .int .i64 y.1.credit, .int .i64 y.1.state, .int .i64 y.1.sq, .int .i64 y.1.peer, .int .i64 y.1.cc, .int .i64 y.1.ms, .string y.1.data]) := by
    rw [q_w3.out]
    have := (Blk.new w2 59 [.int .i64 y.1.most, .int .i64 y.1.credit, .int .i64 y.1.state, .int .i64 y.1.sq, .int .i64 y.1.peer, .int .i64 y.1.cc, .int .i64 y.1.ms, .string y.1.data]).alloc (.cells #[.slice P.A1 y.2.sigs.length P.c1, .slice P.A2 y.2.units.length P.c2, .bool y.2.begins, .bool y.2.ends, .int .i64 y.2.ms, .int .i64 y.2.timer] 90)
    exact this
  have HBR3 : Hid (Blk w3 (w2.heap.size + 1) 90 [.slice P.A1 y.2.sigs.length P.c1, .slice P.A2 y.2.units.length P.c2, .bool y.2.begins, .bool y.2.ends, .int .i64 y.2.ms, .int .i64 y.2.timer]) := by
    rw [q_w3.out]
    have := Blk.new (w2.alloc (.cells #[.int .i64 y.1.most, .int .i64 y.1.credit, .int .i64 y.1.state, .int .i64 y.1.sq, .int .i64 y.1.peer, .int .i64 y.1.cc, .int .i64 y.1.ms, .string y.1.data] 59)) 90 [.slice P.A1 y.2.sigs.length P.c1, .slice P.A2 y.2.units.length P.c2, .bool y.2.begins, .bool y.2.ends, .int .i64 y.2.ms, .int .i64 y.2.timer]
    rwa [show (w2.alloc (.cells #[.int .i64 y.1.most, .int .i64 y.1.credit, .int .i64 y.1.state, .int .i64 y.1.sq, .int .i64 y.1.peer, .int .i64 y.1.cc, .int .i64 y.1.ms, .string y.1.data] 59)).heap.size = w2.heap.size + 1 by simp] at this
  have HBX3 := Lib.hid (hf3.blk HBX2.out (fun e => e))
  have HBA3 := Lib.hid (hf3.blk HBA2.out (fun e => e))
  have HBOC3 := Lib.hid (hf3.blk HBOC2.out (fun e => e))
  have HBOR3 := Lib.hid (hf3.blk HBOR2.out (fun e => e))
  have HF3 : Hid (Fresh w w3) := HF2.out.trans hf3 (fun _ _ e => e)
  have HC3 : Hid (ConnAt w3 c s) := hf3.blk HC2.out (fun e => e)
  have HSZ3 : Hid (g + 1 + 1 + 1 < w2.heap.size) := HBOR2.out.lt
  have HR3 := Lib.hid (HR2.out.old hf3)
  clear HBX2 HBA2 HBOC2 HBOR2 HF2 HC2 hf3
  rw [← q_w3.out]
  clear q_w3
  generalize w2.heap.size = b3 at *
  clear HR2
  have KEEP : Hid (∀ wx, Touch (fun k => k = c ∨ k = g + 1 + 1 ∨ k = g + 1 + 1 + 1) w3 wx → wx.cell? ⟨b3, 0, none⟩ = some (.int .i64 y.1.most) ∧ wx.cell? ⟨b3, 1, none⟩ = some (.int .i64 y.1.credit) ∧ wx.cell? ⟨b3, 2, none⟩ = some (.int .i64 y.1.state) ∧ wx.cell? ⟨b3, 3, none⟩ = some (.int .i64 y.1.sq) ∧ wx.cell? ⟨b3, 4, none⟩ = some (.int .i64 y.1.peer) ∧ wx.cell? ⟨b3, 5, none⟩ = some (.int .i64 y.1.cc) ∧ wx.cell? ⟨b3, 6, none⟩ = some (.int .i64 y.1.ms) ∧ wx.cell? ⟨b3, 7, none⟩ = some (.string y.1.data) ∧ wx.cell? ⟨b3 + 1, 0, none⟩ = some (.slice P.A1 y.2.sigs.length P.c1) ∧ wx.cell? ⟨b3 + 1, 1, none⟩ = some (.slice P.A2 y.2.units.length P.c2) ∧ wx.cell? ⟨b3 + 1, 2, none⟩ = some (.bool y.2.begins) ∧ wx.cell? ⟨b3 + 1, 3, none⟩ = some (.bool y.2.ends) ∧ wx.cell? ⟨b3 + 1, 4, none⟩ = some (.int .i64 y.2.ms) ∧ wx.cell? ⟨b3 + 1, 5, none⟩ = some (.int .i64 y.2.timer) ∧ wx.cell? ⟨g + 1, 0, none⟩ = some (.int .i64 3) ∧ wx.cell? ⟨g + 1, 1, none⟩ = some (.int .i64 81) ∧ wx.cell? ⟨g + 1, 2, none⟩ = some (.int .i64 0) ∧ wx.cell? ⟨g + 1, 3, none⟩ = some (.int .i64 0) ∧ wx.cell? ⟨g + 1, 4, none⟩ = some (.int .i64 0) ∧ wx.cell? ⟨g + 1, 5, none⟩ = some (.bool false) ∧ wx.cell? ⟨g + 1, 6, none⟩ = some (.string { data := #[] })) := fun wx ht => by
    have hnC : ¬ (b3 = c ∨ b3 = g + 1 + 1 ∨ b3 = g + 1 + 1 + 1) := by have := HCL.out; have := HSZ3.out; omega
    have hnR : ¬ (b3 + 1 = c ∨ b3 + 1 = g + 1 + 1 ∨ b3 + 1 = g + 1 + 1 + 1) := by have := HCL.out; have := HSZ3.out; omega
    have hnA : ¬ (g + 1 = c ∨ g + 1 = g + 1 + 1 ∨ g + 1 = g + 1 + 1 + 1) := by have := HCL.out; have := HSZ3.out; omega
    exact ⟨(ht.blk HBC3.out hnC).cell 0, (ht.blk HBC3.out hnC).cell 1, (ht.blk HBC3.out hnC).cell 2, (ht.blk HBC3.out hnC).cell 3, (ht.blk HBC3.out hnC).cell 4, (ht.blk HBC3.out hnC).cell 5, (ht.blk HBC3.out hnC).cell 6, (ht.blk HBC3.out hnC).cell 7, (ht.blk HBR3.out hnR).cell 0, (ht.blk HBR3.out hnR).cell 1, (ht.blk HBR3.out hnR).cell 2, (ht.blk HBR3.out hnR).cell 3, (ht.blk HBR3.out hnR).cell 4, (ht.blk HBR3.out hnR).cell 5, (ht.blk HBA3.out hnA).cell 0, (ht.blk HBA3.out hnA).cell 1, (ht.blk HBA3.out hnA).cell 2, (ht.blk HBA3.out hnA).cell 3, (ht.blk HBA3.out hnA).cell 4, (ht.blk HBA3.out hnA).cell 5, (ht.blk HBA3.out hnA).cell 6⟩
  have ht0 : Touch (fun k => k = c ∨ k = g + 1 + 1 ∨ k = g + 1 + 1 + 1) w3 w3.drew := (Touch.refl _ _).drew
  have hc0 : ConnAt w3.drew c s := Blk.drew HC3.out
  have HNOC : Hid (¬ g + 1 + 1 = c) := by unfold Hid; have := HCL.out; omega
  have HNOR : Hid (¬ g + 1 + 1 + 1 = c) := by unfold Hid; have := HCL.out; omega
  have hf0 : Fresh w3 w3.drew := (Touch.refl _ _).drew
  go_region_held3 (fun wx => wx.cell? ⟨b3, 0, none⟩ = some (.int .i64 y.1.most) ∧ wx.cell? ⟨b3, 1, none⟩ = some (.int .i64 y.1.credit) ∧ wx.cell? ⟨b3, 2, none⟩ = some (.int .i64 y.1.state) ∧ wx.cell? ⟨b3, 3, none⟩ = some (.int .i64 y.1.sq) ∧ wx.cell? ⟨b3, 4, none⟩ = some (.int .i64 y.1.peer) ∧ wx.cell? ⟨b3, 5, none⟩ = some (.int .i64 y.1.cc) ∧ wx.cell? ⟨b3, 6, none⟩ = some (.int .i64 y.1.ms) ∧ wx.cell? ⟨b3, 7, none⟩ = some (.string y.1.data) ∧ wx.cell? ⟨b3 + 1, 0, none⟩ = some (.slice P.A1 y.2.sigs.length P.c1) ∧ wx.cell? ⟨b3 + 1, 1, none⟩ = some (.slice P.A2 y.2.units.length P.c2) ∧ wx.cell? ⟨b3 + 1, 2, none⟩ = some (.bool y.2.begins) ∧ wx.cell? ⟨b3 + 1, 3, none⟩ = some (.bool y.2.ends) ∧ wx.cell? ⟨b3 + 1, 4, none⟩ = some (.int .i64 y.2.ms) ∧ wx.cell? ⟨b3 + 1, 5, none⟩ = some (.int .i64 y.2.timer) ∧ wx.cell? ⟨g + 1, 0, none⟩ = some (.int .i64 3) ∧ wx.cell? ⟨g + 1, 1, none⟩ = some (.int .i64 81) ∧ wx.cell? ⟨g + 1, 2, none⟩ = some (.int .i64 0) ∧ wx.cell? ⟨g + 1, 3, none⟩ = some (.int .i64 0) ∧ wx.cell? ⟨g + 1, 4, none⟩ = some (.int .i64 0) ∧ wx.cell? ⟨g + 1, 5, none⟩ = some (.bool false) ∧ wx.cell? ⟨g + 1, 6, none⟩ = some (.string { data := #[] }))
    (first
      | with_reducible exact KEEP.out _ (by with_reducible assumption)
      | exact KEEP.out _ (by repeat (first | with_reducible assumption | refine Touch.st ?_ (by first | exact Or.inr (Or.inl rfl) | exact Or.inr (Or.inr rfl))))
      | with_reducible assumption)
    (first
      | (go_simp; go_at_call 10; refine (cfail_any hc0 HO.out 81).mono ?_; rw [HY.out]; rintro e7 w7 ⟨v, rfl, hp⟩; have ht7 := ht0.trans hp.touch (fun _ _ e => Or.inl e); have hsp := same_post hp HK.out ((HR3.out.old hf0).touch hp.touch (fun k e => by have e : k = c := e; rw [e]; exact HCLR.out)); have hcp := hp.conn; have hop := hp.ok; have htp : Touch (· = c) w w7 := (((HF3.out.trans hf0 (fun _ _ e => e)).mono (fun _ _ e => e.elim)).trans hp.touch (fun _ _ e => e)); have hOC7 := ht7; have hbOC := hp.touch.blk (hf0.blk HBOC3.out (fun e => e)) HNOC.out; have hbOR := hp.touch.blk (hf0.blk HBOR3.out (fun e => e)) HNOR.out; clear hOC7 hp)
      | (go_simp; go_at_call 54; refine (hsp _ (Touch.refl _ _)).mono ?_; rintro e8 w8 ⟨rfl, f8⟩; have ht8 := ht7.trans f8 (fun _ _ e => e.elim); have HB8OC := Lib.hid (f8.blk hbOC (fun e => e)); have HB8OR := Lib.hid (f8.blk hbOR (fun e => e)); have HC8 : Hid (ConnAt w8 c y.1) := f8.blk hcp (fun e => e); have HT8 : Hid (Touch (· = c) w w8) := htp.trans f8 (fun _ _ e => e.elim); have HOP := Lib.hid hop; clear hsp hcp hop htp hbOC hbOR f8; have zOC0 : w8.cell? ⟨g + 1 + 1, 0, none⟩ = some (.int .i64 0) := HB8OC.out.cell 0; have fOC0 := HB8OC.out.frozen 0; have zOC1 : w8.cell? ⟨g + 1 + 1, 1, none⟩ = some (.int .i64 0) := HB8OC.out.cell 1; have fOC1 := HB8OC.out.frozen 1; have zOC2 : w8.cell? ⟨g + 1 + 1, 2, none⟩ = some (.int .i64 0) := HB8OC.out.cell 2; have fOC2 := HB8OC.out.frozen 2; have zOC3 : w8.cell? ⟨g + 1 + 1, 3, none⟩ = some (.int .i64 0) := HB8OC.out.cell 3; have fOC3 := HB8OC.out.frozen 3; have zOC4 : w8.cell? ⟨g + 1 + 1, 4, none⟩ = some (.int .i64 0) := HB8OC.out.cell 4; have fOC4 := HB8OC.out.frozen 4; have zOC5 : w8.cell? ⟨g + 1 + 1, 5, none⟩ = some (.int .i64 0) := HB8OC.out.cell 5; have fOC5 := HB8OC.out.frozen 5; have zOC6 : w8.cell? ⟨g + 1 + 1, 6, none⟩ = some (.int .i64 0) := HB8OC.out.cell 6; have fOC6 := HB8OC.out.frozen 6; have zOC7 : w8.cell? ⟨g + 1 + 1, 7, none⟩ = some (.string { data := #[] }) := HB8OC.out.cell 7; have fOC7 := HB8OC.out.frozen 7; have zOR0 : w8.cell? ⟨g + 1 + 1 + 1, 0, none⟩ = some (.slice none 0 0) := HB8OR.out.cell 0; have fOR0 := HB8OR.out.frozen 0; have zOR1 : w8.cell? ⟨g + 1 + 1 + 1, 1, none⟩ = some (.slice none 0 0) := HB8OR.out.cell 1; have fOR1 := HB8OR.out.frozen 1; have zOR2 : w8.cell? ⟨g + 1 + 1 + 1, 2, none⟩ = some (.bool false) := HB8OR.out.cell 2; have fOR2 := HB8OR.out.frozen 2; have zOR3 : w8.cell? ⟨g + 1 + 1 + 1, 3, none⟩ = some (.bool false) := HB8OR.out.cell 3; have fOR3 := HB8OR.out.frozen 3; have zOR4 : w8.cell? ⟨g + 1 + 1 + 1, 4, none⟩ = some (.int .i64 0) := HB8OR.out.cell 4; have fOR4 := HB8OR.out.frozen 4; have zOR5 : w8.cell? ⟨g + 1 + 1 + 1, 5, none⟩ = some (.int .i64 0) := HB8OR.out.cell 5; have fOR5 := HB8OR.out.frozen 5))
  all_goals
    rename_i hH
    clear hH
    have ta : Touch (· = g + 1 + 1) w8 ((((((((w8.setCell ⟨g + 1 + 1, 0, none⟩ (.int .i64 y.1.most)).setCell ⟨g + 1 + 1, 1, none⟩ (.int .i64 y.1.credit)).setCell ⟨g + 1 + 1, 2, none⟩ (.int .i64 y.1.state)).setCell ⟨g + 1 + 1, 3, none⟩ (.int .i64 y.1.sq)).setCell ⟨g + 1 + 1, 4, none⟩ (.int .i64 y.1.peer)).setCell ⟨g + 1 + 1, 5, none⟩ (.int .i64 y.1.cc)).setCell ⟨g + 1 + 1, 6, none⟩ (.int .i64 y.1.ms)).setCell ⟨g + 1 + 1, 7, none⟩ (.string y.1.data)) := (((((((((Touch.refl _ w8).st (S := (· = g + 1 + 1)) (u := .int .i64 y.1.most) (by exact rfl)).st (S := (· = g + 1 + 1)) (u := .int .i64 y.1.credit) (by exact rfl)).st (S := (· = g + 1 + 1)) (u := .int .i64 y.1.state) (by exact rfl)).st (S := (· = g + 1 + 1)) (u := .int .i64 y.1.sq) (by exact rfl)).st (S := (· = g + 1 + 1)) (u := .int .i64 y.1.peer) (by exact rfl)).st (S := (· = g + 1 + 1)) (u := .int .i64 y.1.cc) (by exact rfl)).st (S := (· = g + 1 + 1)) (u := .int .i64 y.1.ms) (by exact rfl)).st (S := (· = g + 1 + 1)) (u := .string y.1.data) (by exact rfl))
    have hoc : Blk ((((((((w8.setCell ⟨g + 1 + 1, 0, none⟩ (.int .i64 y.1.most)).setCell ⟨g + 1 + 1, 1, none⟩ (.int .i64 y.1.credit)).setCell ⟨g + 1 + 1, 2, none⟩ (.int .i64 y.1.state)).setCell ⟨g + 1 + 1, 3, none⟩ (.int .i64 y.1.sq)).setCell ⟨g + 1 + 1, 4, none⟩ (.int .i64 y.1.peer)).setCell ⟨g + 1 + 1, 5, none⟩ (.int .i64 y.1.cc)).setCell ⟨g + 1 + 1, 6, none⟩ (.int .i64 y.1.ms)).setCell ⟨g + 1 + 1, 7, none⟩ (.string y.1.data)) (g + 1 + 1) 59 [.int .i64 y.1.most, .int .i64 y.1.credit, .int .i64 y.1.state, .int .i64 y.1.sq, .int .i64 y.1.peer, .int .i64 y.1.cc, .int .i64 y.1.ms, .string y.1.data] := ((((((((HB8OC.out.set 0 (.int .i64 y.1.most)).set 1 (.int .i64 y.1.credit)).set 2 (.int .i64 y.1.state)).set 3 (.int .i64 y.1.sq)).set 4 (.int .i64 y.1.peer)).set 5 (.int .i64 y.1.cc)).set 6 (.int .i64 y.1.ms)).set 7 (.string y.1.data))
    have hor := ta.blk HB8OR.out (by intro e; have e : g + 1 + 1 + 1 = g + 1 + 1 := e; omega)
    obtain ⟨w9, q0⟩ : ∃ x : World, x = ((((((((((((((w8.setCell ⟨g + 1 + 1, 0, none⟩ (.int .i64 y.1.most)).setCell ⟨g + 1 + 1, 1, none⟩ (.int .i64 y.1.credit)).setCell ⟨g + 1 + 1, 2, none⟩ (.int .i64 y.1.state)).setCell ⟨g + 1 + 1, 3, none⟩ (.int .i64 y.1.sq)).setCell ⟨g + 1 + 1, 4, none⟩ (.int .i64 y.1.peer)).setCell ⟨g + 1 + 1, 5, none⟩ (.int .i64 y.1.cc)).setCell ⟨g + 1 + 1, 6, none⟩ (.int .i64 y.1.ms)).setCell ⟨g + 1 + 1, 7, none⟩ (.string y.1.data)).setCell ⟨g + 1 + 1 + 1, 0, none⟩ (.slice P.A1 y.2.sigs.length P.c1)).setCell ⟨g + 1 + 1 + 1, 1, none⟩ (.slice P.A2 y.2.units.length P.c2)).setCell ⟨g + 1 + 1 + 1, 2, none⟩ (.bool y.2.begins)).setCell ⟨g + 1 + 1 + 1, 3, none⟩ (.bool y.2.ends)).setCell ⟨g + 1 + 1 + 1, 4, none⟩ (.int .i64 y.2.ms)).setCell ⟨g + 1 + 1 + 1, 5, none⟩ (.int .i64 y.2.timer)) := ⟨_, rfl⟩
    have q_w9 := Lib.hid q0
    clear q0
    have tb : Touch (· = g + 1 + 1 + 1) ((((((((w8.setCell ⟨g + 1 + 1, 0, none⟩ (.int .i64 y.1.most)).setCell ⟨g + 1 + 1, 1, none⟩ (.int .i64 y.1.credit)).setCell ⟨g + 1 + 1, 2, none⟩ (.int .i64 y.1.state)).setCell ⟨g + 1 + 1, 3, none⟩ (.int .i64 y.1.sq)).setCell ⟨g + 1 + 1, 4, none⟩ (.int .i64 y.1.peer)).setCell ⟨g + 1 + 1, 5, none⟩ (.int .i64 y.1.cc)).setCell ⟨g + 1 + 1, 6, none⟩ (.int .i64 y.1.ms)).setCell ⟨g + 1 + 1, 7, none⟩ (.string y.1.data)) w9 := by rw [q_w9.out]; exact (((((((Touch.refl _ ((((((((w8.setCell ⟨g + 1 + 1, 0, none⟩ (.int .i64 y.1.most)).setCell ⟨g + 1 + 1, 1, none⟩ (.int .i64 y.1.credit)).setCell ⟨g + 1 + 1, 2, none⟩ (.int .i64 y.1.state)).setCell ⟨g + 1 + 1, 3, none⟩ (.int .i64 y.1.sq)).setCell ⟨g + 1 + 1, 4, none⟩ (.int .i64 y.1.peer)).setCell ⟨g + 1 + 1, 5, none⟩ (.int .i64 y.1.cc)).setCell ⟨g + 1 + 1, 6, none⟩ (.int .i64 y.1.ms)).setCell ⟨g + 1 + 1, 7, none⟩ (.string y.1.data))).st (S := (· = g + 1 + 1 + 1)) (u := .slice P.A1 y.2.sigs.length P.c1) (by exact rfl)).st (S := (· = g + 1 + 1 + 1)) (u := .slice P.A2 y.2.units.length P.c2) (by exact rfl)).st (S := (· = g + 1 + 1 + 1)) (u := .bool y.2.begins) (by exact rfl)).st (S := (· = g + 1 + 1 + 1)) (u := .bool y.2.ends) (by exact rfl)).st (S := (· = g + 1 + 1 + 1)) (u := .int .i64 y.2.ms) (by exact rfl)).st (S := (· = g + 1 + 1 + 1)) (u := .int .i64 y.2.timer) (by exact rfl))
    have hor2 : Blk w9 (g + 1 + 1 + 1) 90 [.slice P.A1 y.2.sigs.length P.c1, .slice P.A2 y.2.units.length P.c2, .bool y.2.begins, .bool y.2.ends, .int .i64 y.2.ms, .int .i64 y.2.timer] := by rw [q_w9.out]; exact ((((((hor.set 0 (.slice P.A1 y.2.sigs.length P.c1)).set 1 (.slice P.A2 y.2.units.length P.c2)).set 2 (.bool y.2.begins)).set 3 (.bool y.2.ends)).set 4 (.int .i64 y.2.ms)).set 5 (.int .i64 y.2.timer))
    have hoc2 := tb.blk hoc (by intro e; have e : g + 1 + 1 = g + 1 + 1 + 1 := e; omega)
    have hc9 : ConnAt w9 c y.1 := tb.blk (ta.blk HC8.out (by intro e; have e : c = g + 1 + 1 := e; have := HCL.out; omega)) (by intro e; have e : c = g + 1 + 1 + 1 := e; have := HCL.out; omega)
    have ht9 : Touch (· = c) w w9 := (HT8.out.trans ta (fun k hk e => by have e : k = g + 1 + 1 := e; have := HGG.out; omega)).trans tb (fun k hk e => by have e : k = g + 1 + 1 + 1 := e; have := HGG.out; omega)
    have HX : Hid (∀ e, e = .returned (.tuple #[.agg #[.int .i64 y.1.most, .int .i64 y.1.credit, .int .i64 y.1.state, .int .i64 y.1.sq, .int .i64 y.1.peer, .int .i64 y.1.cc, .int .i64 y.1.ms, .string y.1.data], .agg #[.slice P.A1 y.2.sigs.length P.c1, .slice P.A2 y.2.units.length P.c2, .bool y.2.begins, .bool y.2.ends, .int .i64 y.2.ms, .int .i64 y.2.timer], .bool true]) → StepPost c y w e w9) := fun e he => ⟨P, he, hc9, HOP.out, ht9⟩
    clear ta tb hoc hor hc9 ht9 zOC0 fOC0 zOC1 fOC1 zOC2 fOC2 zOC3 fOC3 zOC4 fOC4 zOC5 fOC5 zOC6 fOC6 zOC7 fOC7 zOR0 fOR0 zOR1 fOR1 zOR2 fOR2 zOR3 fOR3 zOR4 fOR4 zOR5 fOR5
    rw [← q_w9.out]
    clear q_w9
    have z0 : w9.cell? ⟨g + 1 + 1, 0, none⟩ = some (.int .i64 y.1.most) := hoc2.cell 0
    have z1 : w9.cell? ⟨g + 1 + 1, 1, none⟩ = some (.int .i64 y.1.credit) := hoc2.cell 1
    have z2 : w9.cell? ⟨g + 1 + 1, 2, none⟩ = some (.int .i64 y.1.state) := hoc2.cell 2
    have z3 : w9.cell? ⟨g + 1 + 1, 3, none⟩ = some (.int .i64 y.1.sq) := hoc2.cell 3
    have z4 : w9.cell? ⟨g + 1 + 1, 4, none⟩ = some (.int .i64 y.1.peer) := hoc2.cell 4
    have z5 : w9.cell? ⟨g + 1 + 1, 5, none⟩ = some (.int .i64 y.1.cc) := hoc2.cell 5
    have z6 : w9.cell? ⟨g + 1 + 1, 6, none⟩ = some (.int .i64 y.1.ms) := hoc2.cell 6
    have z7 : w9.cell? ⟨g + 1 + 1, 7, none⟩ = some (.string y.1.data) := hoc2.cell 7
    have y0 : w9.cell? ⟨g + 1 + 1 + 1, 0, none⟩ = some (.slice P.A1 y.2.sigs.length P.c1) := hor2.cell 0
    have y1 : w9.cell? ⟨g + 1 + 1 + 1, 1, none⟩ = some (.slice P.A2 y.2.units.length P.c2) := hor2.cell 1
    have y2 : w9.cell? ⟨g + 1 + 1 + 1, 2, none⟩ = some (.bool y.2.begins) := hor2.cell 2
    have y3 : w9.cell? ⟨g + 1 + 1 + 1, 3, none⟩ = some (.bool y.2.ends) := hor2.cell 3
    have y4 : w9.cell? ⟨g + 1 + 1 + 1, 4, none⟩ = some (.int .i64 y.2.ms) := hor2.cell 4
    have y5 : w9.cell? ⟨g + 1 + 1 + 1, 5, none⟩ = some (.int .i64 y.2.timer) := hor2.cell 5
    go_wp2
    exact bodyPost_ret (v := _) (by simp [results, Try.results37, go_sem, z0, z1, z2, z3, z4, z5, z6, z7, y0, y1, y2, y3, y4, y5]) rfl (HX.out _ rfl)
end Go.Proofs.Ytkmegkjkbalooaa
