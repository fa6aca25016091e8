/-
  ring.Ring of units: place, Room, All, grow, Put · ring.Ring of units: First, Take · ring.Ring of units: Take.
-/
import Derived.Test.YtipaobpmojahaaaGreatRPdu
import Derived.Test.YtipaobpmojahaaaGreatPdw
import Derived.Test.YtipaobpmojahaaaGreatRingOStr
import Derived.Deep.RegionHeld3
namespace Go.Proofs.YtipaobpmojahaaaGreat
open Go.RowKit
set_option maxRecDepth 20000

theorem ringPdu_place (g : Nat) (A : Option Addr) (c a n L : Nat) (w : World) (c0 : w.cell? ⟨g, 0, none⟩ = some (.slice A L c)) (c1 : w.cell? ⟨g, 1, none⟩ = some (.int .i64 a)) (ha : a ≤ 4096) (hn : n ≤ 4096) (hL : 0 < L) (hL2 : L ≤ 4096) (p : Nat) (Hp : Hid ((a + n) % L = p)) :
    Calls Tryz.prog 84 #[.pointer (some ⟨g, 0, none⟩), .int .i64 n] w fun e w' => e = .returned (.int .i64 p) ∧ ∃ m, w' = w.drewN m := by
  rw [← Hp.out]
  have hL0 : ((L : Int) == 0) = false := by simp; omega
  have hp := Strplace_mod a n L
  go_enter Tryz.func84, Tryz.ntmps84
  go_wp2
  go_quiet (fail)
  go_wp2
  go_ret
  exact ⟨rfl, _, rfl⟩
set_option maxRecDepth 20000

set_option maxHeartbeats 1000000 in
theorem ringPdu_first (g : Nat) (b : Option Nat) (most : Nat) (u : Cn.Pd) (q : List Cn.Pd) (w : World) (h : RingPdu w g b most (u :: q)) :
    Calls Tryz.prog 83 #[.pointer (some ⟨g, 0, none⟩)] w fun e w' => e = .returned (.tuple #[pduV u, .int .i64 0]) ∧ Fresh w w' := by
  have hlg := h.lt
  obtain ⟨A, c, a, buf, hb, hs, rfl, hm1, hm2, hg⟩ := h
  obtain ⟨hal, hget⟩ := hg.first (by simp)
  rw [List.getElem?_eq_getElem hal] at hget
  have hget : buf[a] = u := by injection hget
  obtain ⟨gA, oA, rfl, z⟩ := hs.rd.pdu8 a hal
  rw [hget] at z
  have hlA : gA < w.heap.size := hs.lt _ rfl
  obtain ⟨w1, hw1⟩ : ∃ w1, w1 = w.alloc (.cells #[.int .i64 0, .int .i64 0, .int .u32 0, .int .u32 0, .int .u32 0, .slice none 0 0, .bool false, .string { data := #[] }] 58) := ⟨_, rfl⟩
  obtain ⟨b2, hb2⟩ : ∃ b2, b2 = w.heap.size := ⟨_, rfl⟩
  have HF1 : Hid (Fresh w w1) := by rw [hw1]; exact (Touch.refl _ _).alloc _
  have BZ : Hid (Blk w1 b2 58 [.int .i64 0, .int .i64 0, .int .u32 0, .int .u32 0, .int .u32 0, .slice none 0 0, .bool false, .string ByteArray.empty]) := by rw [hw1, hb2]; exact Blk.new w _ _
  have KF : Hid (∀ wx, Touch (· = b2) w1 wx → wx.cell? ⟨g, 0, none⟩ = some (.slice (some ⟨gA, oA, none⟩) buf.length c) ∧ wx.cell? ⟨g, 1, none⟩ = some (.int .i64 a) ∧ wx.cell? ⟨gA, oA + a * 8, none⟩ = some (.int .i64 u.kind) ∧ wx.cell? ⟨gA, oA + a * 8 + 1, none⟩ = some (.int .i64 u.sq) ∧ wx.cell? ⟨gA, oA + a * 8 + 2, none⟩ = some (.int .u32 u.n) ∧ wx.cell? ⟨gA, oA + a * 8 + 3, none⟩ = some (.int .u32 u.ps) ∧ wx.cell? ⟨gA, oA + a * 8 + 4, none⟩ = some (.int .u32 u.mr) ∧ wx.cell? ⟨gA, oA + a * 8 + 5, none⟩ = some (.slice u.lA u.ln u.lc) ∧ wx.cell? ⟨gA, oA + a * 8 + 6, none⟩ = some (.bool u.self) ∧ wx.cell? ⟨gA, oA + a * 8 + 7, none⟩ = some (.string u.data)) := fun wx hw => by
    have t : Touch (· = b2) w wx := (HF1.out.mono (fun _ _ e => e.elim)).trans hw (fun _ _ e => e)
    have h1 := t.blk hb (fun e => by omega)
    have hk : ∀ o v, w.cell? ⟨gA, o, none⟩ = some v → wx.cell? ⟨gA, o, none⟩ = some v := fun o v hv => by
      rw [← hv]; unfold World.cell?; simp only [t.block gA hlA (fun e => by omega)]
    obtain ⟨z0, z1, z2, z3, z4, z5, z6, z7⟩ := z
    exact ⟨h1.cell 0, h1.cell 1, hk _ _ z0, hk _ _ z1, hk _ _ z2, hk _ _ z3, hk _ _ z4, hk _ _ z5, hk _ _ z6, hk _ _ z7⟩
  have c2 : w1.cell? ⟨g, 2, none⟩ = some (.int .i64 ((u :: q).length : Nat)) := (HF1.out.blk hb (fun e => e)).cell 2
  have hq0 : (((u :: q).length : Int) == 0) = false := by simp; omega
  generalize (u :: q).length = len at c2 hq0
  obtain ⟨c0, c1, e0, e1, e2, e3, e4, e5, e6, e7⟩ := KF.out w1 (Touch.refl _ _)
  have f0 := BZ.out.frozen 0
  have f1 := BZ.out.frozen 1
  have f2 := BZ.out.frozen 2
  have f3 := BZ.out.frozen 3
  have f4 := BZ.out.frozen 4
  have f5 := BZ.out.frozen 5
  have f6 := BZ.out.frozen 6
  have f7 := BZ.out.frozen 7
  have y0 : w1.cell? ⟨b2, 0, none⟩ = some (.int .i64 0) := BZ.out.cell 0
  have y1 : w1.cell? ⟨b2, 1, none⟩ = some (.int .i64 0) := BZ.out.cell 1
  have y2 : w1.cell? ⟨b2, 2, none⟩ = some (.int .u32 0) := BZ.out.cell 2
  have y3 : w1.cell? ⟨b2, 3, none⟩ = some (.int .u32 0) := BZ.out.cell 3
  have y4 : w1.cell? ⟨b2, 4, none⟩ = some (.int .u32 0) := BZ.out.cell 4
  have y5 : w1.cell? ⟨b2, 5, none⟩ = some (.slice none 0 0) := BZ.out.cell 5
  have y6 : w1.cell? ⟨b2, 6, none⟩ = some (.bool false) := BZ.out.cell 6
  have y7 : w1.cell? ⟨b2, 7, none⟩ = some (.string ByteArray.empty) := BZ.out.cell 7
  have hcap := hs.1
  have hcapm := hs.2.1
  have BF := Lib.hid (BZ.out.set8 (.int .i64 u.kind) (.int .i64 u.sq) (.int .u32 u.n) (.int .u32 u.ps) (.int .u32 u.mr) (.slice u.lA u.ln u.lc) (.bool u.self) (.string u.data))
  have FF := Lib.hid (HF1.out.st8 (g := b2) (by omega) (.int .i64 u.kind) (.int .i64 u.sq) (.int .u32 u.n) (.int .u32 u.ps) (.int .u32 u.mr) (.slice u.lA u.ln u.lc) (.bool u.self) (.string u.data))
  clear hb hs hg hget z
  have T0 : Touch (· = b2) w1 w1 := Touch.refl _ w1
  have T8 : Touch (· = b2) w1 ((((((((w1.setCell ⟨b2, 0, none⟩ (.int .i64 u.kind)).setCell ⟨b2, 1, none⟩ (.int .i64 u.sq)).setCell ⟨b2, 2, none⟩ (.int .u32 u.n)).setCell ⟨b2, 3, none⟩ (.int .u32 u.ps)).setCell ⟨b2, 4, none⟩ (.int .u32 u.mr)).setCell ⟨b2, 5, none⟩ (.slice u.lA u.ln u.lc)).setCell ⟨b2, 6, none⟩ (.bool u.self)).setCell ⟨b2, 7, none⟩ (.string u.data)).drew := ((((((((T0.st rfl).st rfl).st rfl).st rfl).st rfl).st rfl).st rfl).st rfl).drew
  have TD : Touch (· = b2) w1 w1.drew := T0.drew
  unfold pduV
  go_enter Tryz.func83, Tryz.ntmps83
  go_upto_region 1 with (fail)
  rw [← hw1, ← hb2]
  clear hw1 hb2
  go_upto_region 4 with (fail)
  go_region_held3 (fun wx => wx.cell? ⟨g, 0, none⟩ = some (.slice (some ⟨gA, oA, none⟩) buf.length c) ∧ wx.cell? ⟨g, 1, none⟩ = some (.int .i64 a) ∧ wx.cell? ⟨gA, oA + a * 8, none⟩ = some (.int .i64 u.kind) ∧ wx.cell? ⟨gA, oA + a * 8 + 1, none⟩ = some (.int .i64 u.sq) ∧ wx.cell? ⟨gA, oA + a * 8 + 2, none⟩ = some (.int .u32 u.n) ∧ wx.cell? ⟨gA, oA + a * 8 + 3, none⟩ = some (.int .u32 u.ps) ∧ wx.cell? ⟨gA, oA + a * 8 + 4, none⟩ = some (.int .u32 u.mr) ∧ wx.cell? ⟨gA, oA + a * 8 + 5, none⟩ = some (.slice u.lA u.ln u.lc) ∧ wx.cell? ⟨gA, oA + a * 8 + 6, none⟩ = some (.bool u.self) ∧ wx.cell? ⟨gA, oA + a * 8 + 7, none⟩ = some (.string u.data))
    ((with_reducible refine KF.out _ ?_; with_reducible assumption))
    (fail)
  all_goals
    clear KF T8 TD T0 c0 c1 c2 e0 e1 e2 e3 e4 e5 e6 e7 y0 y1 y2 y3 y4 y5 y6 y7 f0 f1 f2 f3 f4 f5 f6 f7 BZ HF1
    have BD : Blk ((((((((w1.setCell ⟨b2, 0, none⟩ (.int .i64 u.kind)).setCell ⟨b2, 1, none⟩ (.int .i64 u.sq)).setCell ⟨b2, 2, none⟩ (.int .u32 u.n)).setCell ⟨b2, 3, none⟩ (.int .u32 u.ps)).setCell ⟨b2, 4, none⟩ (.int .u32 u.mr)).setCell ⟨b2, 5, none⟩ (.slice u.lA u.ln u.lc)).setCell ⟨b2, 6, none⟩ (.bool u.self)).setCell ⟨b2, 7, none⟩ (.string u.data)).drew b2 58 [.int .i64 u.kind, .int .i64 u.sq, .int .u32 u.n, .int .u32 u.ps, .int .u32 u.mr, .slice u.lA u.ln u.lc, .bool u.self, .string u.data] := ((Touch.refl (fun _ => False) _).drew).blk BF.out (fun e => e)
    have HF : Hid (Fresh w ((((((((w1.setCell ⟨b2, 0, none⟩ (.int .i64 u.kind)).setCell ⟨b2, 1, none⟩ (.int .i64 u.sq)).setCell ⟨b2, 2, none⟩ (.int .u32 u.n)).setCell ⟨b2, 3, none⟩ (.int .u32 u.ps)).setCell ⟨b2, 4, none⟩ (.int .u32 u.mr)).setCell ⟨b2, 5, none⟩ (.slice u.lA u.ln u.lc)).setCell ⟨b2, 6, none⟩ (.bool u.self)).setCell ⟨b2, 7, none⟩ (.string u.data)).drew) := FF.out.drew
    clear FF BF
    go_wp2
    generalize ((((((((w1.setCell ⟨b2, 0, none⟩ (.int .i64 u.kind)).setCell ⟨b2, 1, none⟩ (.int .i64 u.sq)).setCell ⟨b2, 2, none⟩ (.int .u32 u.n)).setCell ⟨b2, 3, none⟩ (.int .u32 u.ps)).setCell ⟨b2, 4, none⟩ (.int .u32 u.mr)).setCell ⟨b2, 5, none⟩ (.slice u.lA u.ln u.lc)).setCell ⟨b2, 6, none⟩ (.bool u.self)).setCell ⟨b2, 7, none⟩ (.string u.data)).drew = W at BD HF ⊢
    have x0 : W.cell? ⟨b2, 0, none⟩ = some (.int .i64 u.kind) := BD.cell 0
    have x1 : W.cell? ⟨b2, 1, none⟩ = some (.int .i64 u.sq) := BD.cell 1
    have x2 : W.cell? ⟨b2, 2, none⟩ = some (.int .u32 u.n) := BD.cell 2
    have x3 : W.cell? ⟨b2, 3, none⟩ = some (.int .u32 u.ps) := BD.cell 3
    have x4 : W.cell? ⟨b2, 4, none⟩ = some (.int .u32 u.mr) := BD.cell 4
    have x5 : W.cell? ⟨b2, 5, none⟩ = some (.slice u.lA u.ln u.lc) := BD.cell 5
    have x6 : W.cell? ⟨b2, 6, none⟩ = some (.bool u.self) := BD.cell 6
    have x7 : W.cell? ⟨b2, 7, none⟩ = some (.string u.data) := BD.cell 7
    exact bodyPost_ret (v := .tuple #[.agg #[.int .i64 u.kind, .int .i64 u.sq, .int .u32 u.n, .int .u32 u.ps, .int .u32 u.mr, .slice u.lA u.ln u.lc, .bool u.self, .string u.data], .int .i64 0]) (by simp [results, Tryz.results83, go_sem, x0, x1, x2, x3, x4, x5, x6, x7]) rfl ⟨rfl, HF.out⟩
set_option maxRecDepth 20000

set_option maxHeartbeats 2000000 in
theorem ringPdu_take (g : Nat) (b : Option Nat) (most : Nat) (u : Cn.Pd) (q : List Cn.Pd) (w : World) (h : RingPdu w g b most (u :: q)) :
    Calls Tryz.prog 35 #[.pointer (some ⟨g, 0, none⟩)] w fun e w' => e = .returned (.tuple #[pduV u, .int .i64 0]) ∧ RingPdu w' g b most q ∧ Touch (Foot g b) w w' := by
  obtain ⟨w1, hw1⟩ : ∃ w1, w1 = w.alloc (.cells #[.int .i64 0, .int .i64 0, .int .u32 0, .int .u32 0, .int .u32 0, .slice none 0 0, .bool false, .string { data := #[] }] 58) := ⟨_, rfl⟩
  obtain ⟨b2, hb2⟩ : ∃ b2, b2 = w.heap.size := ⟨_, rfl⟩
  have HF1 : Hid (Fresh w w1) := by rw [hw1]; exact (Touch.refl _ _).alloc _
  have BZ : Hid (Blk w1 b2 58 [.int .i64 0, .int .i64 0, .int .u32 0, .int .u32 0, .int .u32 0, .slice none 0 0, .bool false, .string ByteArray.empty]) := by rw [hw1, hb2]; exact Blk.new w _ _
  have hlg := h.lt
  have hql : q.length + 1 ≤ 4096 := by have := h.len_le; simp at this; omega
  have h1 := h.touch HF1.out (fun e => e) (fun _ _ e => e)
  have HFI := Lib.hid (ringPdu_first g b most u q w1 h1)
  obtain ⟨A, c, a, buf, hb, hs, hA, hm1, hm2, hg⟩ := h
  obtain ⟨hal, -⟩ := hg.first (by simp)
  have hg1 := hg.take (by simp) pduE.zel
  simp only [List.tail_cons] at hg1
  obtain ⟨gA, oA, rfl, z⟩ := hs.rd.pdu8 a hal
  have hlA : gA < w.heap.size := hs.lt _ rfl
  have hne : gA ≠ g := hs.blk_ne hb (by decide) ⟨gA, oA, none⟩ rfl
  have hne' : g ≠ gA := Ne.symm hne
  obtain ⟨e, he⟩ : ∃ e, e = buf[a] := ⟨_, rfl⟩
  rw [← he] at z
  clear he h1
  obtain rfl : b = some gA := by rw [← hA]; rfl
  have hcap := hs.1
  have hcapm := hs.2.1
  have hq0 : (((u :: q).length : Int)) - 1 = (q.length : Int) := by simp
  have HBF : Hid (∀ W, Fresh w W → Blk W g 170 [.slice (some ⟨gA, oA, none⟩) buf.length c, .int .i64 a, .int .i64 ((u :: q).length : Nat), .int .i64 most] ∧ Sl pduE W (some ⟨gA, oA, none⟩) c buf) := fun W hW => ⟨hW.blk hb (fun e => e), hs.touch hW (fun _ _ e => e)⟩
  generalize (u :: q).length = len at HBF hq0
  clear hb hs hg hA
  unfold pduV at HFI ⊢
  go_enter Tryz.func35, Tryz.ntmps35
  go_upto_region 1 with (fail)
  rw [← hw1, ← hb2]
  have HB2 : Hid (w.heap.size ≤ b2 ∧ b2 < w1.heap.size) := ⟨by omega, BZ.out.lt⟩
  clear hw1 hb2
  go_upto_region 4 with (go_at_call 83; (with_reducible refine HFI.out.mono ?_); rintro e w2 ⟨rfl, F2⟩)
  obtain ⟨b4, hb4⟩ : ∃ b4, b4 = w2.heap.size := ⟨_, rfl⟩
  obtain ⟨w3, hw3⟩ : ∃ w3, w3 = w2.alloc (.cells #[.int .i64 u.kind, .int .i64 u.sq, .int .u32 u.n, .int .u32 u.ps, .int .u32 u.mr, .slice u.lA u.ln u.lc, .bool u.self, .string u.data] 58) := ⟨_, rfl⟩
  obtain ⟨b6, hb60⟩ : ∃ b6, b6 = b4 + 1 := ⟨_, rfl⟩
  obtain ⟨w4, hw4⟩ : ∃ w4, w4 = w3.alloc (.cells #[.int .i64 0, .int .i64 0, .int .u32 0, .int .u32 0, .int .u32 0, .slice none 0 0, .bool false, .string { data := #[] }] 58) := ⟨_, rfl⟩
  rw [← hb4, ← hw3, ← hb60, ← hw4]
  have hb6 : b6 = w3.heap.size := by rw [hb60, hw3, hb4]; simp
  clear hb60
  have hF34 : Fresh w3 w4 := by rw [hw4]; exact (Touch.refl _ _).alloc _
  have hF23 : Fresh w2 w3 := by rw [hw3]; exact (Touch.refl _ _).alloc _
  have hF14 : Fresh w1 w4 := (F2.trans hF23 (fun _ _ e => e)).trans hF34 (fun _ _ e => e)
  have HF4 : Hid (Fresh w w4) := HF1.out.trans hF14 (fun _ _ e => e)
  have hs12 := F2.size
  have hs23 := hF23.size
  have h2lt := HB2.out.2
  have h4lt : b4 < w3.heap.size := by rw [hw3, hb4]; simp
  have h6lt : b6 < w4.heap.size := by rw [hw4, hb6]; simp
  have B2 : Hid (Blk w4 b2 58 [.int .i64 0, .int .i64 0, .int .u32 0, .int .u32 0, .int .u32 0, .slice none 0 0, .bool false, .string ByteArray.empty]) := hF14.blk BZ.out (fun e => e)
  have B4 : Hid (Blk w4 b4 58 [.int .i64 u.kind, .int .i64 u.sq, .int .u32 u.n, .int .u32 u.ps, .int .u32 u.mr, .slice u.lA u.ln u.lc, .bool u.self, .string u.data]) := hF34.blk (by rw [hw3, hb4]; exact Blk.new w2 _ _) (fun e => e)
  have B6 : Hid (Blk w4 b6 58 [.int .i64 0, .int .i64 0, .int .u32 0, .int .u32 0, .int .u32 0, .slice none 0 0, .bool false, .string ByteArray.empty]) := by rw [hw4, hb6]; exact Blk.new w3 _ _
  have HNE : Hid (gA < w.heap.size ∧ w.heap.size ≤ b2 ∧ b2 < b4 ∧ b4 < b6) := ⟨hlA, HB2.out.1, by omega, by omega⟩
  have hB4 := HBF.out w4 HF4.out
  have KF : Hid (∀ wx, Touch (· = gA) w4 wx → wx.cell? ⟨g, 0, none⟩ = some (.slice (some ⟨gA, oA, none⟩) buf.length c) ∧ wx.cell? ⟨g, 1, none⟩ = some (.int .i64 a) ∧ wx.cell? ⟨b6, 0, none⟩ = some (.int .i64 0) ∧ wx.cell? ⟨b6, 1, none⟩ = some (.int .i64 0) ∧ wx.cell? ⟨b6, 2, none⟩ = some (.int .u32 0) ∧ wx.cell? ⟨b6, 3, none⟩ = some (.int .u32 0) ∧ wx.cell? ⟨b6, 4, none⟩ = some (.int .u32 0) ∧ wx.cell? ⟨b6, 5, none⟩ = some (.slice none 0 0) ∧ wx.cell? ⟨b6, 6, none⟩ = some (.bool false) ∧ wx.cell? ⟨b6, 7, none⟩ = some (.string { data := #[] })) := fun wx hw => by
    have h1 := hw.blk hB4.1 hne'
    have h2 := hw.blk B6.out (fun e => by have := HNE.out; omega)
    exact ⟨h1.cell 0, h1.cell 1, h2.cell 0, h2.cell 1, h2.cell 2, h2.cell 3, h2.cell 4, h2.cell 5, h2.cell 6, h2.cell 7⟩
  have hfz := fun j => hB4.2.frozen gA oA rfl (oA + a * 8 + j)
  have hfz0 := hB4.2.frozen gA oA rfl (oA + a * 8)
  obtain ⟨g', o', e9, z9⟩ := hB4.2.rd.pdu8 a hal
  injection e9 with e9
  injection e9 with e91 e92
  subst e91 e92
  obtain ⟨z0, z1, z2, z3, z4, z5, z6, z7⟩ := z9
  have T0 : Touch (· = gA) w4 w4 := Touch.refl _ w4
  have TD : Touch (· = gA) w4 w4.drew := T0.drew
  have T8 : Touch (· = gA) w4 ((((((((w4.setCell ⟨gA, oA + a * 8, none⟩ (.int .i64 0)).setCell ⟨gA, oA + a * 8 + 1, none⟩ (.int .i64 0)).setCell ⟨gA, oA + a * 8 + 2, none⟩ (.int .u32 0)).setCell ⟨gA, oA + a * 8 + 3, none⟩ (.int .u32 0)).setCell ⟨gA, oA + a * 8 + 4, none⟩ (.int .u32 0)).setCell ⟨gA, oA + a * 8 + 5, none⟩ (.slice none 0 0)).setCell ⟨gA, oA + a * 8 + 6, none⟩ (.bool false)).setCell ⟨gA, oA + a * 8 + 7, none⟩ (.string { data := #[] })).drew := ((((((((T0.st rfl).st rfl).st rfl).st rfl).st rfl).st rfl).st rfl).st rfl).drew
  have HSE := Lib.hid (hB4.2.setE a hal pduE.zel)
  obtain ⟨c0, c1, x0, x1, x2, x3, x4, x5, x6, x7⟩ := KF.out w4 T0
  clear hw3 hw4 hb4 hb6 hF34 hF23 hF14 hs12 hs23 h2lt h4lt h6lt hB4 F2 HFI BZ z HF1
  go_region_held3 (fun wx => wx.cell? ⟨g, 0, none⟩ = some (.slice (some ⟨gA, oA, none⟩) buf.length c) ∧ wx.cell? ⟨g, 1, none⟩ = some (.int .i64 a) ∧ wx.cell? ⟨b6, 0, none⟩ = some (.int .i64 0) ∧ wx.cell? ⟨b6, 1, none⟩ = some (.int .i64 0) ∧ wx.cell? ⟨b6, 2, none⟩ = some (.int .u32 0) ∧ wx.cell? ⟨b6, 3, none⟩ = some (.int .u32 0) ∧ wx.cell? ⟨b6, 4, none⟩ = some (.int .u32 0) ∧ wx.cell? ⟨b6, 5, none⟩ = some (.slice none 0 0) ∧ wx.cell? ⟨b6, 6, none⟩ = some (.bool false) ∧ wx.cell? ⟨b6, 7, none⟩ = some (.string { data := #[] }))
    ((with_reducible refine KF.out _ ?_; with_reducible assumption))
    (fail)
  all_goals
    have B2' := T8.blk B2.out (fun e => by have := HNE.out; omega)
    have B4' := T8.blk B4.out (fun e => by have := HNE.out; omega)
    have HB5 := T8.blk (HBF.out w4 HF4.out).1 hne'
    have S8 : Sl pduE ((((((((w4.setCell ⟨gA, oA + a * 8, none⟩ (.int .i64 0)).setCell ⟨gA, oA + a * 8 + 1, none⟩ (.int .i64 0)).setCell ⟨gA, oA + a * 8 + 2, none⟩ (.int .u32 0)).setCell ⟨gA, oA + a * 8 + 3, none⟩ (.int .u32 0)).setCell ⟨gA, oA + a * 8 + 4, none⟩ (.int .u32 0)).setCell ⟨gA, oA + a * 8 + 5, none⟩ (.slice none 0 0)).setCell ⟨gA, oA + a * 8 + 6, none⟩ (.bool false)).setCell ⟨gA, oA + a * 8 + 7, none⟩ (.string { data := #[] })) (some ⟨gA, oA, none⟩) c (buf.set a pduE.zel) := HSE.out
    have S5 := S8.touch ((Touch.refl (fun _ => False) _).drew) (fun _ _ e => e)
    have T5 : Touch (Foot g (some gA)) w ((((((((w4.setCell ⟨gA, oA + a * 8, none⟩ (.int .i64 0)).setCell ⟨gA, oA + a * 8 + 1, none⟩ (.int .i64 0)).setCell ⟨gA, oA + a * 8 + 2, none⟩ (.int .u32 0)).setCell ⟨gA, oA + a * 8 + 3, none⟩ (.int .u32 0)).setCell ⟨gA, oA + a * 8 + 4, none⟩ (.int .u32 0)).setCell ⟨gA, oA + a * 8 + 5, none⟩ (.slice none 0 0)).setCell ⟨gA, oA + a * 8 + 6, none⟩ (.bool false)).setCell ⟨gA, oA + a * 8 + 7, none⟩ (.string { data := #[] })).drew := (HF4.out.mono (fun _ _ e => e.elim)).trans T8 (fun k _ e => .inr (by rw [e]))
    clear T8 TD T0 S8 HSE KF x0 x1 x2 x3 x4 x5 x6 x7 z0 z1 z2 z3 z4 z5 z6 z7 hfz hfz0 c0 c1 B2 B4 B6 HBF
    generalize ((((((((w4.setCell ⟨gA, oA + a * 8, none⟩ (.int .i64 0)).setCell ⟨gA, oA + a * 8 + 1, none⟩ (.int .i64 0)).setCell ⟨gA, oA + a * 8 + 2, none⟩ (.int .u32 0)).setCell ⟨gA, oA + a * 8 + 3, none⟩ (.int .u32 0)).setCell ⟨gA, oA + a * 8 + 4, none⟩ (.int .u32 0)).setCell ⟨gA, oA + a * 8 + 5, none⟩ (.slice none 0 0)).setCell ⟨gA, oA + a * 8 + 6, none⟩ (.bool false)).setCell ⟨gA, oA + a * 8 + 7, none⟩ (.string { data := #[] })).drew = W5 at *
    obtain ⟨p, hp⟩ : ∃ p, Hid ((a + 1) % buf.length = p) := ⟨_, rfl⟩
    have c0 : W5.cell? ⟨g, 0, none⟩ = some (.slice (some ⟨gA, oA, none⟩) buf.length c) := HB5.cell 0
    have c1 : W5.cell? ⟨g, 1, none⟩ = some (.int .i64 a) := HB5.cell 1
    have c2 : W5.cell? ⟨g, 2, none⟩ = some (.int .i64 len) := HB5.cell 2
    have f1 := HB5.frozen 1
    have f2 := HB5.frozen 2
    have HX := Lib.hid (And.intro HB5 (And.intro B2' (And.intro B4' (And.intro S5 T5))))
    clear HB5 B2' B4' S5 T5
    go_upto_region 7 with (go_at_call 84; refine (ringPdu_place g _ c a 1 buf.length _ (by exact c0) (by exact c1) (by omega) (by omega) (by omega) (by omega) p hp).mono ?_; rintro e w6 ⟨rfl, m, rfl⟩)
    obtain ⟨HB5, B2', B4', S5, T5⟩ := HX.out
    have T6 : Touch (· = g) W5 (((W5.drewN m).setCell ⟨g, 1, none⟩ (.int .i64 p)).setCell ⟨g, 2, none⟩ (.int .i64 (q.length : Int))) := (((Touch.refl (· = g) W5).drewN m).st rfl).st rfl
    have HB6 : Blk (((W5.drewN m).setCell ⟨g, 1, none⟩ (.int .i64 p)).setCell ⟨g, 2, none⟩ (.int .i64 (q.length : Int))) g 170 [.slice (some ⟨gA, oA, none⟩) buf.length c, .int .i64 p, .int .i64 (q.length : Int), .int .i64 most] := ((HB5.drewN m).set 1 _).set 2 _
    clear c0 c1 c2 f1 f2 HX HB5
    generalize (((W5.drewN m).setCell ⟨g, 1, none⟩ (.int .i64 p)).setCell ⟨g, 2, none⟩ (.int .i64 (q.length : Int))) = W6 at *
    have HR6 : Hid (RingPdu W6 g (some gA) most q) := by
      refine ⟨some ⟨gA, oA, none⟩, c, p, buf.set a pduE.zel, ?_, S5.touch T6 (fun ad e => by injection e with e; subst e; exact hne), rfl, by simpa using hm1, hm2, ?_⟩
      · rw [List.length_set]; exact HB6
      · rw [← hp.out]; exact hg1
    have HT6 : Hid (Touch (Foot g (some gA)) w W6) := T5.trans T6 (fun k _ e => .inl e)
    have B26 : Hid (Blk W6 b2 58 [.int .i64 0, .int .i64 0, .int .u32 0, .int .u32 0, .int .u32 0, .slice none 0 0, .bool false, .string ByteArray.empty]) := T6.blk B2' (fun e => by have := HNE.out; omega)
    have B46 := T6.blk B4' (fun e => by have := HNE.out; omega)
    clear HB6 T6 S5 T5 B2' B4'
    have HGW : Hid (g < w.heap.size) := hlg
    have v0 : W6.cell? ⟨b4, 0, none⟩ = some (.int .i64 u.kind) := B46.cell 0
    have v1 : W6.cell? ⟨b4, 1, none⟩ = some (.int .i64 u.sq) := B46.cell 1
    have v2 : W6.cell? ⟨b4, 2, none⟩ = some (.int .u32 u.n) := B46.cell 2
    have v3 : W6.cell? ⟨b4, 3, none⟩ = some (.int .u32 u.ps) := B46.cell 3
    have v4 : W6.cell? ⟨b4, 4, none⟩ = some (.int .u32 u.mr) := B46.cell 4
    have v5 : W6.cell? ⟨b4, 5, none⟩ = some (.slice u.lA u.ln u.lc) := B46.cell 5
    have v6 : W6.cell? ⟨b4, 6, none⟩ = some (.bool u.self) := B46.cell 6
    have v7 : W6.cell? ⟨b4, 7, none⟩ = some (.string u.data) := B46.cell 7
    have y0 : W6.cell? ⟨b2, 0, none⟩ = some (.int .i64 0) := B26.out.cell 0
    have y1 : W6.cell? ⟨b2, 1, none⟩ = some (.int .i64 0) := B26.out.cell 1
    have y2 : W6.cell? ⟨b2, 2, none⟩ = some (.int .u32 0) := B26.out.cell 2
    have y3 : W6.cell? ⟨b2, 3, none⟩ = some (.int .u32 0) := B26.out.cell 3
    have y4 : W6.cell? ⟨b2, 4, none⟩ = some (.int .u32 0) := B26.out.cell 4
    have y5 : W6.cell? ⟨b2, 5, none⟩ = some (.slice none 0 0) := B26.out.cell 5
    have y6 : W6.cell? ⟨b2, 6, none⟩ = some (.bool false) := B26.out.cell 6
    have y7 : W6.cell? ⟨b2, 7, none⟩ = some (.string ByteArray.empty) := B26.out.cell 7
    have f0 := B26.out.frozen 0
    have f1 := B26.out.frozen 1
    have f2 := B26.out.frozen 2
    have f3 := B26.out.frozen 3
    have f4 := B26.out.frozen 4
    have f5 := B26.out.frozen 5
    have f6 := B26.out.frozen 6
    have f7 := B26.out.frozen 7
    have TR : Touch (· = b2) W6 ((((((((W6.setCell ⟨b2, 0, none⟩ (.int .i64 u.kind)).setCell ⟨b2, 1, none⟩ (.int .i64 u.sq)).setCell ⟨b2, 2, none⟩ (.int .u32 u.n)).setCell ⟨b2, 3, none⟩ (.int .u32 u.ps)).setCell ⟨b2, 4, none⟩ (.int .u32 u.mr)).setCell ⟨b2, 5, none⟩ (.slice u.lA u.ln u.lc)).setCell ⟨b2, 6, none⟩ (.bool u.self)).setCell ⟨b2, 7, none⟩ (.string u.data)) := ((((((((Touch.refl (· = b2) W6).st rfl).st rfl).st rfl).st rfl).st rfl).st rfl).st rfl).st rfl
    have BR : Blk ((((((((W6.setCell ⟨b2, 0, none⟩ (.int .i64 u.kind)).setCell ⟨b2, 1, none⟩ (.int .i64 u.sq)).setCell ⟨b2, 2, none⟩ (.int .u32 u.n)).setCell ⟨b2, 3, none⟩ (.int .u32 u.ps)).setCell ⟨b2, 4, none⟩ (.int .u32 u.mr)).setCell ⟨b2, 5, none⟩ (.slice u.lA u.ln u.lc)).setCell ⟨b2, 6, none⟩ (.bool u.self)).setCell ⟨b2, 7, none⟩ (.string u.data)) b2 58 [.int .i64 u.kind, .int .i64 u.sq, .int .u32 u.n, .int .u32 u.ps, .int .u32 u.mr, .slice u.lA u.ln u.lc, .bool u.self, .string u.data] := B26.out.set8 _ _ _ _ _ _ _ _
    have HBR := Lib.hid BR
    clear BR
    have HRR : Hid (RingPdu ((((((((W6.setCell ⟨b2, 0, none⟩ (.int .i64 u.kind)).setCell ⟨b2, 1, none⟩ (.int .i64 u.sq)).setCell ⟨b2, 2, none⟩ (.int .u32 u.n)).setCell ⟨b2, 3, none⟩ (.int .u32 u.ps)).setCell ⟨b2, 4, none⟩ (.int .u32 u.mr)).setCell ⟨b2, 5, none⟩ (.slice u.lA u.ln u.lc)).setCell ⟨b2, 6, none⟩ (.bool u.self)).setCell ⟨b2, 7, none⟩ (.string u.data)) g (some gA) most q) := HR6.out.touch TR (fun e => by have := HNE.out; have := HGW.out; omega) (fun k e e2 => by injection e with e; have := HNE.out; omega)
    have HTR : Hid (Touch (Foot g (some gA)) w ((((((((W6.setCell ⟨b2, 0, none⟩ (.int .i64 u.kind)).setCell ⟨b2, 1, none⟩ (.int .i64 u.sq)).setCell ⟨b2, 2, none⟩ (.int .u32 u.n)).setCell ⟨b2, 3, none⟩ (.int .u32 u.ps)).setCell ⟨b2, 4, none⟩ (.int .u32 u.mr)).setCell ⟨b2, 5, none⟩ (.slice u.lA u.ln u.lc)).setCell ⟨b2, 6, none⟩ (.bool u.self)).setCell ⟨b2, 7, none⟩ (.string u.data))) := HT6.out.trans TR (fun k hk e => by have := HNE.out; omega)
    clear TR
    go_wp2
    generalize ((((((((W6.setCell ⟨b2, 0, none⟩ (.int .i64 u.kind)).setCell ⟨b2, 1, none⟩ (.int .i64 u.sq)).setCell ⟨b2, 2, none⟩ (.int .u32 u.n)).setCell ⟨b2, 3, none⟩ (.int .u32 u.ps)).setCell ⟨b2, 4, none⟩ (.int .u32 u.mr)).setCell ⟨b2, 5, none⟩ (.slice u.lA u.ln u.lc)).setCell ⟨b2, 6, none⟩ (.bool u.self)).setCell ⟨b2, 7, none⟩ (.string u.data)) = W7 at HBR HRR HTR ⊢
    have BR := HBR.out
    have x0 : W7.cell? ⟨b2, 0, none⟩ = some (.int .i64 u.kind) := BR.cell 0
    have x1 : W7.cell? ⟨b2, 1, none⟩ = some (.int .i64 u.sq) := BR.cell 1
    have x2 : W7.cell? ⟨b2, 2, none⟩ = some (.int .u32 u.n) := BR.cell 2
    have x3 : W7.cell? ⟨b2, 3, none⟩ = some (.int .u32 u.ps) := BR.cell 3
    have x4 : W7.cell? ⟨b2, 4, none⟩ = some (.int .u32 u.mr) := BR.cell 4
    have x5 : W7.cell? ⟨b2, 5, none⟩ = some (.slice u.lA u.ln u.lc) := BR.cell 5
    have x6 : W7.cell? ⟨b2, 6, none⟩ = some (.bool u.self) := BR.cell 6
    have x7 : W7.cell? ⟨b2, 7, none⟩ = some (.string u.data) := BR.cell 7
    exact bodyPost_ret (v := .tuple #[.agg #[.int .i64 u.kind, .int .i64 u.sq, .int .u32 u.n, .int .u32 u.ps, .int .u32 u.mr, .slice u.lA u.ln u.lc, .bool u.self, .string u.data], .int .i64 0]) (by simp [results, Tryz.results35, go_sem, x0, x1, x2, x3, x4, x5, x6, x7]) rfl ⟨rfl, HRR.out, HTR.out⟩
end Go.Proofs.YtipaobpmojahaaaGreat
