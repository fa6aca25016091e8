/-
  ConnFails: whoever is Ready begins anew at a failure, and lets go in silence; whoever isn't does nothing. No conditions.
-/
import Derived.Test.YtkmegkjkbalooaaAtOk
import Derived.Test.YtkmegkjkbalooaaCnW
import Derived.Test.YtkmegkjkbalooaaNum
namespace Go.Proofs.Ytkmegkjkbalooaa
open Go.RowKit Go.Shelf

theorem Touch.cell_ {S : Nat → Prop} {w w' : World} (h : Touch S w w') {g i : Nat} (hg : g < w.heap.size) (hs : ¬ S g) : w'.cell? ⟨g, i, none⟩ = w.cell? ⟨g, i, none⟩ := World.cell?_of_block (h.block g hg hs)
set_option maxRecDepth 100000 in
theorem way_state : ∀ k < 10, (Cn.run (Cn.ways.getD k [])).state = (k : Int) + 1 := by decide
set_option maxRecDepth 100000 in
theorem way9 : Cn.run (Cn.ways.getD 9 []) = ⟨2, 9, 10, 0, 7, 0, 0, { data := #[] }⟩ := by kernel_rfl
set_option maxRecDepth 100000 in
theorem fail9 (code : Int) : Cn.failS ⟨2, 9, 10, 0, 7, 0, 0, { data := #[] }⟩ code = (⟨2, 9, 7, 1, 7, 1, 0, { data := #[] }⟩, ⟨[⟨12, { data := #[] }, false, code, 0⟩], [⟨9, 1, 9, 0, 0, none, 0, 0, false, { data := #[] }⟩], false, true, 0, 1⟩) := by kernel_rfl
set_option maxRecDepth 100000 in
theorem silent9 : Cn.silentS ⟨2, 9, 10, 0, 7, 0, 0, { data := #[] }⟩ = (⟨2, 9, 1, 0, 7, 0, 0, { data := #[] }⟩, ⟨[⟨12, { data := #[] }, false, 80, 0⟩, ⟨3, { data := #[] }, true, 0, 0⟩], [⟨3, 0, 0, 0, 0, none, 0, 0, true, { data := #[] }⟩], false, true, 0, 0⟩) := by kernel_rfl
set_option maxHeartbeats 4000000 in
set_option maxRecDepth 100000 in
theorem connFails_dev (a0 code : Int) (W : World) (_ : (Lit.int .i64 a0).wf = true) (_ : (Lit.int .u8 code).wf = true) (k : Nat) (hk : k < 10) (hb : (bits BinOp.and .i64 a0 255).tmod 10 = (k : Int)) :
    Calls Try.prog 6 #[.int .i64 a0, .int .u8 code] W fun e w' => e = .returned (.bool true) ∧ Below W.heap.size W w' := by
  have hadd : (1 : Int) + (k : Int) = (k : Int) + 1 := by omega
  have hkI : (k : Int) < 10 := by omega
  have HK := Lib.hid hk
  clear hk
  go_enter Try.func6, Try.ntmps6
  go_wp2_with fail
  refine (awake14 W).mono ?_
  rintro e w1 ⟨rfl, f1⟩
  have F1 : Hid (Fresh W w1) := f1
  clear f1
  go_wp2_with fail
  refine (at14_any w1 k HK.out).mono ?_
  rintro e w2 ⟨c, rfl, hc2, ho2, hn2, f2⟩
  obtain ⟨s, hs⟩ : ∃ s, Cn.run (Cn.ways.getD k []) = s := ⟨_, rfl⟩
  rw [hs] at hc2 ho2 ⊢
  have HS := Lib.hid hs
  clear hs
  have F2 : Hid (Fresh W w2) := F1.out.trans f2 (fun _ _ e => e)
  have HCW : Hid (W.heap.size ≤ c) := by have := F1.out.size; unfold Hid; omega
  have HC2 : Hid (ConnAt w2 c s) := hc2
  have HO2 := Lib.hid ho2
  clear f2 hc2 ho2 hn2 F1
  simp only [rcV]
  go_wp2_with fail
  have HFa : Hid (Fresh w2 (w2.alloc (.cells #[.int .i64 s.most, .int .i64 s.credit, .int .i64 s.state, .int .i64 s.sq, .int .i64 s.peer, .int .i64 s.cc, .int .i64 s.ms, .string s.data] 59))) := (Touch.refl _ _).alloc _
  refine (at14_any _ k HK.out).mono ?_
  rintro e w3 ⟨d, rfl, hd3, ho3, hn3, f3⟩
  rw [HS.out] at hd3 ho3 ⊢
  have F3a : Hid (Fresh w2 w3) := HFa.out.trans f3 (fun _ _ e => e)
  have F3 : Hid (Fresh W w3) := F2.out.trans F3a.out (fun _ _ e => e)
  have HC3 : Hid (ConnAt w3 c s) := F3a.out.blk HC2.out (fun e => e)
  have HD3 : Hid (ConnAt w3 d s) := hd3
  have HCD : Hid (c < d) := by have h1 := HC2.out.lt; simp at hn3; unfold Hid; omega
  clear hd3 f3 hn3 HFa F3a F2 HC2 ho3
  simp only [rcV]
  go_wp2_with fail
  have HFb : Hid (Fresh w3 (w3.alloc (.cells #[.int .i64 s.most, .int .i64 s.credit, .int .i64 s.state, .int .i64 s.sq, .int .i64 s.peer, .int .i64 s.cc, .int .i64 s.ms, .string s.data] 59))) := (Touch.refl _ _).alloc _
  refine (vars_any (HFb.out.blk HC3.out (fun e => e))).mono ?_
  rintro e w4 ⟨rfl, f4⟩
  have F4a : Hid (Fresh w3 w4) := HFb.out.trans f4 (fun _ _ e => e)
  have F4 : Hid (Fresh W w4) := F3.out.trans F4a.out (fun _ _ e => e)
  have HC4 : Hid (ConnAt w4 c s) := F4a.out.blk HC3.out (fun e => e)
  have HD4 : Hid (ConnAt w4 d s) := F4a.out.blk HD3.out (fun e => e)
  clear f4 HFb F4a F3 HC3 HD3
  go_upto_region 9 with (fail)
  have HBV : Hid (Blk (w4.alloc (.cells #[.int .i64 s.state, .int .i64 s.sq, .int .i64 s.peer, .int .i64 s.cc, .int .u32 s.ms] 48)) w4.heap.size 48 [.int .i64 s.state, .int .i64 s.sq, .int .i64 s.peer, .int .i64 s.cc, .int .u32 s.ms]) := Blk.new w4 _ [.int .i64 s.state, .int .i64 s.sq, .int .i64 s.peer, .int .i64 s.cc, .int .u32 s.ms]
  have HFc : Hid (Fresh w4 (w4.alloc (.cells #[.int .i64 s.state, .int .i64 s.sq, .int .i64 s.peer, .int .i64 s.cc, .int .u32 s.ms] 48))) := (Touch.refl _ _).alloc _
  have HC5 : Hid (ConnAt (w4.alloc (.cells #[.int .i64 s.state, .int .i64 s.sq, .int .i64 s.peer, .int .i64 s.cc, .int .u32 s.ms] 48)) c s) := HFc.out.blk HC4.out (fun e => e)
  have HD5 : Hid (ConnAt (w4.alloc (.cells #[.int .i64 s.state, .int .i64 s.sq, .int .i64 s.peer, .int .i64 s.cc, .int .u32 s.ms] 48)) d s) := HFc.out.blk HD4.out (fun e => e)
  have HF5 : Hid (Fresh W (w4.alloc (.cells #[.int .i64 s.state, .int .i64 s.sq, .int .i64 s.peer, .int .i64 s.cc, .int .u32 s.ms] 48))) := F4.out.trans HFc.out (fun _ _ e => e)
  have HDV : Hid (d < w4.heap.size) := HD4.out.lt
  clear HFc HC4 HD4 F4
  generalize w4.alloc (.cells #[.int .i64 s.state, .int .i64 s.sq, .int .i64 s.peer, .int .i64 s.cc, .int .u32 s.ms] 48) = w5 at *
  generalize w4.heap.size = bv at *
  go_wp2_with fail
  refine (cfail_any HC5.out HO2.out code).mono ?_
  rintro e w6 ⟨v1, rfl, hp1⟩
  have HP1 := Lib.hid hp1
  have HD6 : Hid (ConnAt w6 d s) := hp1.touch.blk HD5.out (by intro e; have e : d = c := e; have := HCD.out; omega)
  have HBV6 := Lib.hid (hp1.touch.blk HBV.out (by intro e; have e : bv = c := e; have := HCD.out; have := HDV.out; omega))
  have HF6 : Hid (Fresh W w6) := HF5.out.trans hp1.touch (fun k _ e => by have e : k = c := e; have := HCW.out; omega)
  obtain ⟨A1, c1, A2, c2, rfl, s1, s2, -, -⟩ := hp1.res
  have HS1 := Lib.hid s1
  have HS2 := Lib.hid s2
  have HCN6 := Lib.hid hp1.conn
  clear hp1 s1 s2 HBV HF5 HD5
  go_wp2_with fail
  refine (silent_any HD6.out HO2.out).mono ?_
  rintro e w7 ⟨v2, rfl, hp2⟩
  have HCN7 : Hid (ConnAt w7 c (Cn.failS s code).1) := hp2.touch.blk HCN6.out (by intro e; have e : c = d := e; have := HCD.out; omega)
  have HBV7 := Lib.hid (hp2.touch.blk HBV6.out (by intro e; have e : bv = d := e; have := HDV.out; omega))
  have HF7 : Hid (Fresh W w7) := HF6.out.trans hp2.touch (fun k _ e => by have e : k = d := e; have := HCW.out; have := HCD.out; omega)
  have HS17 := Lib.hid (HS1.out.touch hp2.touch (fun ad e h => by have h : ad.block = d := h; exact HS1.out.blk_ne HD6.out (by decide) ad e h))
  have HS27 := Lib.hid (HS2.out.touch hp2.touch (fun ad e h => by have h : ad.block = d := h; exact HS2.out.blk_ne HD6.out (by decide) ad e h))
  obtain ⟨A3, c3, A4, c4, rfl, s3, s4, -, -⟩ := hp2.res
  have HS3 := Lib.hid s3
  have HS4 := Lib.hid s4
  have HDN7 := Lib.hid hp2.conn
  clear hp2 s3 s4 HP1 HS1 HS2 HCN6 HBV6 HF6 HD6 HC5
  go_upto_region 10 with (fail)
  have hf8 : Fresh w7 ((w7.alloc (.cells #[.slice A1 (Cn.failS s code).2.sigs.length c1, .slice A2 (Cn.failS s code).2.units.length c2, .bool (Cn.failS s code).2.begins, .bool (Cn.failS s code).2.ends, .int .u32 (Cn.failS s code).2.ms, .int .i64 (Cn.failS s code).2.timer] 41)).alloc (.cells #[.slice A3 (Cn.silentS s).2.sigs.length c3, .slice A4 (Cn.silentS s).2.units.length c4, .bool (Cn.silentS s).2.begins, .bool (Cn.silentS s).2.ends, .int .u32 (Cn.silentS s).2.ms, .int .i64 (Cn.silentS s).2.timer] 41)) := ((Touch.refl _ w7).alloc _).alloc _
  have HR1 : Hid (Blk ((w7.alloc (.cells #[.slice A1 (Cn.failS s code).2.sigs.length c1, .slice A2 (Cn.failS s code).2.units.length c2, .bool (Cn.failS s code).2.begins, .bool (Cn.failS s code).2.ends, .int .u32 (Cn.failS s code).2.ms, .int .i64 (Cn.failS s code).2.timer] 41)).alloc (.cells #[.slice A3 (Cn.silentS s).2.sigs.length c3, .slice A4 (Cn.silentS s).2.units.length c4, .bool (Cn.silentS s).2.begins, .bool (Cn.silentS s).2.ends, .int .u32 (Cn.silentS s).2.ms, .int .i64 (Cn.silentS s).2.timer] 41)) w7.heap.size 41 [.slice A1 (Cn.failS s code).2.sigs.length c1, .slice A2 (Cn.failS s code).2.units.length c2, .bool (Cn.failS s code).2.begins, .bool (Cn.failS s code).2.ends, .int .u32 (Cn.failS s code).2.ms, .int .i64 (Cn.failS s code).2.timer]) := (Blk.new w7 41 [.slice A1 (Cn.failS s code).2.sigs.length c1, .slice A2 (Cn.failS s code).2.units.length c2, .bool (Cn.failS s code).2.begins, .bool (Cn.failS s code).2.ends, .int .u32 (Cn.failS s code).2.ms, .int .i64 (Cn.failS s code).2.timer]).alloc _
  have HR2 : Hid (Blk ((w7.alloc (.cells #[.slice A1 (Cn.failS s code).2.sigs.length c1, .slice A2 (Cn.failS s code).2.units.length c2, .bool (Cn.failS s code).2.begins, .bool (Cn.failS s code).2.ends, .int .u32 (Cn.failS s code).2.ms, .int .i64 (Cn.failS s code).2.timer] 41)).alloc (.cells #[.slice A3 (Cn.silentS s).2.sigs.length c3, .slice A4 (Cn.silentS s).2.units.length c4, .bool (Cn.silentS s).2.begins, .bool (Cn.silentS s).2.ends, .int .u32 (Cn.silentS s).2.ms, .int .i64 (Cn.silentS s).2.timer] 41)) (w7.heap.size + 1) 41 [.slice A3 (Cn.silentS s).2.sigs.length c3, .slice A4 (Cn.silentS s).2.units.length c4, .bool (Cn.silentS s).2.begins, .bool (Cn.silentS s).2.ends, .int .u32 (Cn.silentS s).2.ms, .int .i64 (Cn.silentS s).2.timer]) := by
    have := Blk.new (w7.alloc (.cells #[.slice A1 (Cn.failS s code).2.sigs.length c1, .slice A2 (Cn.failS s code).2.units.length c2, .bool (Cn.failS s code).2.begins, .bool (Cn.failS s code).2.ends, .int .u32 (Cn.failS s code).2.ms, .int .i64 (Cn.failS s code).2.timer] 41)) 41 [.slice A3 (Cn.silentS s).2.sigs.length c3, .slice A4 (Cn.silentS s).2.units.length c4, .bool (Cn.silentS s).2.begins, .bool (Cn.silentS s).2.ends, .int .u32 (Cn.silentS s).2.ms, .int .i64 (Cn.silentS s).2.timer]
    rwa [show (w7.alloc (.cells #[.slice A1 (Cn.failS s code).2.sigs.length c1, .slice A2 (Cn.failS s code).2.units.length c2, .bool (Cn.failS s code).2.begins, .bool (Cn.failS s code).2.ends, .int .u32 (Cn.failS s code).2.ms, .int .i64 (Cn.failS s code).2.timer] 41)).heap.size = w7.heap.size + 1 by simp] at this
  have HCN8 : Hid (ConnAt ((w7.alloc (.cells #[.slice A1 (Cn.failS s code).2.sigs.length c1, .slice A2 (Cn.failS s code).2.units.length c2, .bool (Cn.failS s code).2.begins, .bool (Cn.failS s code).2.ends, .int .u32 (Cn.failS s code).2.ms, .int .i64 (Cn.failS s code).2.timer] 41)).alloc (.cells #[.slice A3 (Cn.silentS s).2.sigs.length c3, .slice A4 (Cn.silentS s).2.units.length c4, .bool (Cn.silentS s).2.begins, .bool (Cn.silentS s).2.ends, .int .u32 (Cn.silentS s).2.ms, .int .i64 (Cn.silentS s).2.timer] 41)) c (Cn.failS s code).1) := hf8.blk HCN7.out (fun e => e)
  have HDN8 : Hid (ConnAt ((w7.alloc (.cells #[.slice A1 (Cn.failS s code).2.sigs.length c1, .slice A2 (Cn.failS s code).2.units.length c2, .bool (Cn.failS s code).2.begins, .bool (Cn.failS s code).2.ends, .int .u32 (Cn.failS s code).2.ms, .int .i64 (Cn.failS s code).2.timer] 41)).alloc (.cells #[.slice A3 (Cn.silentS s).2.sigs.length c3, .slice A4 (Cn.silentS s).2.units.length c4, .bool (Cn.silentS s).2.begins, .bool (Cn.silentS s).2.ends, .int .u32 (Cn.silentS s).2.ms, .int .i64 (Cn.silentS s).2.timer] 41)) d (Cn.silentS s).1) := hf8.blk HDN7.out (fun e => e)
  have HBV8 := Lib.hid (hf8.blk HBV7.out (fun e => e))
  have HF8 : Hid (Fresh W ((w7.alloc (.cells #[.slice A1 (Cn.failS s code).2.sigs.length c1, .slice A2 (Cn.failS s code).2.units.length c2, .bool (Cn.failS s code).2.begins, .bool (Cn.failS s code).2.ends, .int .u32 (Cn.failS s code).2.ms, .int .i64 (Cn.failS s code).2.timer] 41)).alloc (.cells #[.slice A3 (Cn.silentS s).2.sigs.length c3, .slice A4 (Cn.silentS s).2.units.length c4, .bool (Cn.silentS s).2.begins, .bool (Cn.silentS s).2.ends, .int .u32 (Cn.silentS s).2.ms, .int .i64 (Cn.silentS s).2.timer] 41))) := HF7.out.trans hf8 (fun _ _ e => e)
  have HS18 := Lib.hid (HS17.out.touch hf8 (fun _ _ e => e))
  have HS28 := Lib.hid (HS27.out.touch hf8 (fun _ _ e => e))
  have HS38 := Lib.hid (HS3.out.touch hf8 (fun _ _ e => e))
  have HS48 := Lib.hid (HS4.out.touch hf8 (fun _ _ e => e))
  have HBV7L : Hid (bv < w7.heap.size) := HBV7.out.lt
  clear hf8 HCN7 HDN7 HBV7 HF7 HS17 HS27 HS3 HS4
  generalize ((w7.alloc (.cells #[.slice A1 (Cn.failS s code).2.sigs.length c1, .slice A2 (Cn.failS s code).2.units.length c2, .bool (Cn.failS s code).2.begins, .bool (Cn.failS s code).2.ends, .int .u32 (Cn.failS s code).2.ms, .int .i64 (Cn.failS s code).2.timer] 41)).alloc (.cells #[.slice A3 (Cn.silentS s).2.sigs.length c3, .slice A4 (Cn.silentS s).2.units.length c4, .bool (Cn.silentS s).2.begins, .bool (Cn.silentS s).2.ends, .int .u32 (Cn.silentS s).2.ms, .int .i64 (Cn.silentS s).2.timer] 41)) = w8 at *
  generalize w7.heap.size = b8 at *
  have HST : Hid (s.state = (k : Int) + 1) := by unfold Hid; rw [← HS.out]; exact way_state k HK.out
  by_cases hk9 : k = 9
  · subst hk9
    have hs9 : s = ⟨2, 9, 10, 0, 7, 0, 0, { data := #[] }⟩ := by rw [← HS.out]; exact way9
    clear HST HS
    subst hs9
    rw [fail9] at HR1 HCN8 HS18 HS28 ⊢
    rw [silent9] at HR2 HDN8 HS38 HS48 ⊢
    dsimp only [List.length_cons, List.length_nil] at HR1 HCN8 HS18 HS28 HR2 HDN8 HS38 HS48 HBV8 ⊢
    obtain ⟨g1, o1, hA1, hg1, hx1⟩ := HS18.out.at_ 0 (by simp)
    obtain ⟨g2, o2, hA2, hg2, hx2⟩ := HS28.out.at_ 0 (by simp)
    obtain ⟨g3, o3, hA3, hg3, hx3⟩ := HS38.out.at_ 0 (by simp)
    obtain ⟨g4, o4, hA4, hg4, hx4⟩ := HS38.out.at_ 1 (by simp)
    obtain ⟨g5, o5, hA5, hg5, hx5⟩ := HS48.out.at_ 0 (by simp)
    rw [hA3] at hA4
    injection hA4 with hA4
    injection hA4 with hA4 hA4' _
    subst hA4 hA4' hA1 hA2 hA3 hA5
    clear HS18 HS28 HS38 HS48
    have KEEP : Hid (∀ wx, Fresh w8 wx → wx.cell? ⟨b8, 0, none⟩ = some (.slice (some ⟨g1, o1, none⟩) 1 c1) ∧ wx.cell? ⟨b8, 1, none⟩ = some (.slice (some ⟨g2, o2, none⟩) 1 c2) ∧ wx.cell? ⟨b8, 2, none⟩ = some (.bool false) ∧ wx.cell? ⟨b8, 3, none⟩ = some (.bool true) ∧ wx.cell? ⟨b8 + 1, 0, none⟩ = some (.slice (some ⟨g3, o3, none⟩) 2 c3) ∧ wx.cell? ⟨b8 + 1, 1, none⟩ = some (.slice (some ⟨g5, o5, none⟩) 1 c4) ∧ wx.cell? ⟨b8 + 1, 3, none⟩ = some (.bool true) ∧ wx.cell? ⟨bv, 1, none⟩ = some (.int .i64 0) ∧ wx.cell? ⟨g1, o1 + 3, none⟩ = some (.int .u8 code) ∧ wx.cell? ⟨g2, o2, none⟩ = some (.int .i64 9) ∧ wx.cell? ⟨g2, o2 + 1, none⟩ = some (.int .i64 1) ∧ wx.cell? ⟨g3, o3 + 3, none⟩ = some (.int .u8 80) ∧ wx.cell? ⟨g3, o3 + 5, none⟩ = some (.int .i64 3) ∧ wx.cell? ⟨g3, o3 + 7, none⟩ = some (.bool true) ∧ wx.cell? ⟨g5, o5, none⟩ = some (.int .i64 3)) := fun wx ht => ⟨((ht.blk HR1.out (fun e => e)).cell 0), ((ht.blk HR1.out (fun e => e)).cell 1), ((ht.blk HR1.out (fun e => e)).cell 2), ((ht.blk HR1.out (fun e => e)).cell 3), ((ht.blk HR2.out (fun e => e)).cell 0), ((ht.blk HR2.out (fun e => e)).cell 1), ((ht.blk HR2.out (fun e => e)).cell 3), ((ht.blk HBV8.out (fun e => e)).cell 1), (by rw [ht.cell_ hg1 (fun e => e)]; simpa [sigE, Nat.add_assoc] using hx1 3 _ rfl), (by rw [ht.cell_ hg2 (fun e => e)]; simpa [pduE, Nat.add_assoc] using hx2 0 _ rfl), (by rw [ht.cell_ hg2 (fun e => e)]; simpa [pduE, Nat.add_assoc] using hx2 1 _ rfl), (by rw [ht.cell_ hg3 (fun e => e)]; simpa [sigE, Nat.add_assoc] using hx3 3 _ rfl), (by rw [ht.cell_ hg3 (fun e => e)]; simpa [sigE, Nat.add_assoc] using hx4 0 _ rfl), (by rw [ht.cell_ hg3 (fun e => e)]; simpa [sigE, Nat.add_assoc] using hx4 2 _ rfl), (by rw [ht.cell_ hg5 (fun e => e)]; simpa [pduE, Nat.add_assoc] using hx5 0 _ rfl)⟩
    have ht0 : Fresh w8 w8.drew := (Touch.refl _ _).drew
    clear hx1 hx2 hx3 hx4 hx5 HR1 HR2 HBV8 hb hadd hkI
    have hw1 : IntKind.i64.wrap 1 = 1 := by decide
    have hf1 := field_state 7 1 7 1 0
    have hf2 := field_state 1 0 7 0 0
    go_wp2_with fail
    go_region_held3 (fun wx => wx.cell? ⟨b8, 0, none⟩ = some (.slice (some ⟨g1, o1, none⟩) 1 c1) ∧ wx.cell? ⟨b8, 1, none⟩ = some (.slice (some ⟨g2, o2, none⟩) 1 c2) ∧ wx.cell? ⟨b8, 2, none⟩ = some (.bool false) ∧ wx.cell? ⟨b8, 3, none⟩ = some (.bool true) ∧ wx.cell? ⟨b8 + 1, 0, none⟩ = some (.slice (some ⟨g3, o3, none⟩) 2 c3) ∧ wx.cell? ⟨b8 + 1, 1, none⟩ = some (.slice (some ⟨g5, o5, none⟩) 1 c4) ∧ wx.cell? ⟨b8 + 1, 3, none⟩ = some (.bool true) ∧ wx.cell? ⟨bv, 1, none⟩ = some (.int .i64 0) ∧ wx.cell? ⟨g1, o1 + 3, none⟩ = some (.int .u8 code) ∧ wx.cell? ⟨g2, o2, none⟩ = some (.int .i64 9) ∧ wx.cell? ⟨g2, o2 + 1, none⟩ = some (.int .i64 1) ∧ wx.cell? ⟨g3, o3 + 3, none⟩ = some (.int .u8 80) ∧ wx.cell? ⟨g3, o3 + 5, none⟩ = some (.int .i64 3) ∧ wx.cell? ⟨g3, o3 + 7, none⟩ = some (.bool true) ∧ wx.cell? ⟨g5, o5, none⟩ = some (.int .i64 3))
      (first
        | with_reducible exact KEEP.out _ (by with_reducible assumption)
        | with_reducible assumption)
      (first
        | (go_simp; go_at_call 13; refine (vars_any (ht0.blk HCN8.out (fun e => e))).mono ?_; rintro e6 w9 ⟨rfl, f9⟩; have ht9 := ht0.trans f9 (fun _ _ e => e); clear f9))
    all_goals
      rename_i hH
      clear hH
      have HF9 := Lib.hid ht9
      obtain ⟨q0, q1, q2, q3, q4, q5, q6, q7, q8, q9, q10, q11, q12, q13, q14⟩ := KEEP.out _ ht9
      clear ht0 ht9
      go_wp2_with fail
      refine (vars_any (HF9.out.blk HDN8.out (fun e => e))).mono ?_
      rintro e7 w10 ⟨rfl, f10⟩
      have F10 : Hid (Fresh W w10) := HF8.out.trans (HF9.out.trans f10 (fun _ _ e => e)) (fun _ _ e => e)
      clear f10
      go_wp2
      go_ret
      exact ⟨rfl, F10.out.below (Nat.le_refl _) (fun _ _ e => e)⟩
  · have e1 : Cn.failS s code = (s, Cn.r0) := by unfold Cn.failS; rw [if_neg (by rw [HST.out]; omega)]
    have e2 : Cn.silentS s = (s, Cn.r0) := by unfold Cn.silentS; rw [if_neg (by rw [HST.out]; omega)]
    rw [e1] at HR1 HCN8 HS18 HS28 ⊢
    rw [e2] at HR2 HDN8 HS38 HS48 ⊢
    simp only [Cn.r0, List.length_nil] at *
    have hne : ¬ (k : Int) + 1 = 10 := by omega
    have KEEP : Hid (∀ wx, Fresh w8 wx → wx.cell? ⟨b8, 0, none⟩ = some (.slice A1 0 c1) ∧ wx.cell? ⟨b8, 1, none⟩ = some (.slice A2 0 c2) ∧ wx.cell? ⟨b8 + 1, 0, none⟩ = some (.slice A3 0 c3) ∧ wx.cell? ⟨b8 + 1, 1, none⟩ = some (.slice A4 0 c4) ∧ wx.cell? ⟨bv, 0, none⟩ = some (.int .i64 s.state) ∧ wx.cell? ⟨bv, 1, none⟩ = some (.int .i64 s.sq) ∧ wx.cell? ⟨bv, 2, none⟩ = some (.int .i64 s.peer) ∧ wx.cell? ⟨bv, 3, none⟩ = some (.int .i64 s.cc) ∧ wx.cell? ⟨bv, 4, none⟩ = some (.int .u32 s.ms)) := fun wx ht => ⟨(ht.blk HR1.out (fun e => e)).cell 0, (ht.blk HR1.out (fun e => e)).cell 1, (ht.blk HR2.out (fun e => e)).cell 0, (ht.blk HR2.out (fun e => e)).cell 1, (ht.blk HBV8.out (fun e => e)).cell 0, (ht.blk HBV8.out (fun e => e)).cell 1, (ht.blk HBV8.out (fun e => e)).cell 2, (ht.blk HBV8.out (fun e => e)).cell 3, (ht.blk HBV8.out (fun e => e)).cell 4⟩
    have ht0 : Fresh w8 w8.drew := (Touch.refl _ _).drew
    clear e1 e2
    go_wp2_with fail
    go_region_held3 (fun wx => wx.cell? ⟨b8, 0, none⟩ = some (.slice A1 0 c1) ∧ wx.cell? ⟨b8, 1, none⟩ = some (.slice A2 0 c2) ∧ wx.cell? ⟨b8 + 1, 0, none⟩ = some (.slice A3 0 c3) ∧ wx.cell? ⟨b8 + 1, 1, none⟩ = some (.slice A4 0 c4) ∧ wx.cell? ⟨bv, 0, none⟩ = some (.int .i64 s.state) ∧ wx.cell? ⟨bv, 1, none⟩ = some (.int .i64 s.sq) ∧ wx.cell? ⟨bv, 2, none⟩ = some (.int .i64 s.peer) ∧ wx.cell? ⟨bv, 3, none⟩ = some (.int .i64 s.cc) ∧ wx.cell? ⟨bv, 4, none⟩ = some (.int .u32 s.ms))
      (first
        | with_reducible exact KEEP.out _ (by with_reducible assumption)
        | with_reducible assumption)
      (first
        | (go_simp; go_at_call 13; refine (vars_any (ht0.blk HCN8.out (fun e => e))).mono ?_; rintro e6 w9 ⟨rfl, f9⟩; have ht9 := ht0.trans f9 (fun _ _ e => e); clear f9)
        | (go_simp; go_at_call 13; refine (vars_any (ht9.blk HDN8.out (fun e => e))).mono ?_; rintro e7 w10 ⟨rfl, f10⟩; have ht10 := ht9.trans f10 (fun _ _ e => e); clear f10))
    all_goals
      rename_i hH
      clear hH
      have F10 : Hid (Fresh W w10) := HF8.out.trans ht10 (fun _ _ e => e)
      clear ht0 ht9 ht10
      go_wp2
      go_ret
      exact ⟨rfl, F10.out.below (Nat.le_refl _) (fun _ _ e => e)⟩
/-- The law's walk. -/
theorem connFails.walk (a0 code : Int) (W : World) (h0 : (Lit.int .i64 a0).wf = true) (h1 : (Lit.int .u8 code).wf = true) :
    Calls Try.prog 6 #[.int .i64 a0, .int .u8 code] W fun e w' => e = .returned (.bool true) ∧ Below W.heap.size W w' := by
  have e : (bits BinOp.and .i64 a0 255).tmod 10 = a0 % 256 % 10 := by rw [and_255, Int.tmod_eq_emod_of_nonneg (by omega)]
  obtain ⟨k, hk⟩ := Int.eq_ofNat_of_zero_le (show 0 ≤ a0 % 256 % 10 by omega)
  exact connFails_dev a0 code W h0 h1 k (by omega) (by rw [e, hk])
end Go.Proofs.Ytkmegkjkbalooaa
