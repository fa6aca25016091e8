/-
  conn: its calls: Fail, Silent, Expire, Receive, Request.
-/
import Derived.Test.YtkmegkjkbalooaaCnH
import Derived.Shelf.Abstract
namespace Go.Proofs.Ytkmegkjkbalooaa
open Go.RowKit Go.Shelf

theorem Blk.st6 {w : World} {g : Nat} {t : TypeId} {a0 a1 a2 a3 a4 a5 : Value} (h : Blk w g t [a0, a1, a2, a3, a4, a5]) (v0 v1 v2 v3 v4 v5 : Value) :
    Blk ((((((w.setCell ⟨g, 0, none⟩ (v0)).setCell ⟨g, 1, none⟩ (v1)).setCell ⟨g, 2, none⟩ (v2)).setCell ⟨g, 3, none⟩ (v3)).setCell ⟨g, 4, none⟩ (v4)).setCell ⟨g, 5, none⟩ (v5)) g t [v0, v1, v2, v3, v4, v5] ∧ Touch (· = g) w ((((((w.setCell ⟨g, 0, none⟩ (v0)).setCell ⟨g, 1, none⟩ (v1)).setCell ⟨g, 2, none⟩ (v2)).setCell ⟨g, 3, none⟩ (v3)).setCell ⟨g, 4, none⟩ (v4)).setCell ⟨g, 5, none⟩ (v5)) :=
  ⟨(((((h.set 0 v0).set 1 v1).set 2 v2).set 3 v3).set 4 v4).set 5 v5, ((((((Touch.refl _ _).st (by exact rfl)).st (by exact rfl)).st (by exact rfl)).st (by exact rfl)).st (by exact rfl)).st (by exact rfl)⟩

/-- The result is stored in a place that was made by the call. -/
theorem ConnPost.stored {w W w1 w2 : World} {c g : Nat} {y : Cn.SR} {v : Value} (h : ConnPost W c y v w1) (ht0 : Fresh w W) (hc : c < w.heap.size) (hg : w.heap.size ≤ g) (hW : g < W.heap.size) (ht : Touch (· = g) w1 w2) : ConnPost w c y v w2 := by
  obtain ⟨A1, c1, A2, c2, e, s1, s2, b1, b2⟩ := h.res
  have hz := ht0.size
  refine ⟨ht.blk h.conn (by intro e; have e : c = g := e; omega), h.ok, h.few, ⟨A1, c1, A2, c2, e, s1.touch ht (fun ad e e' => ?_), s2.touch ht (fun ad e e' => ?_), fun ad e => Nat.le_trans hz (b1 ad e), fun ad e => Nat.le_trans hz (b2 ad e)⟩, ?_⟩
  · have := b1 ad e; have e' : ad.block = g := e'; omega
  · have := b2 ad e; have e' : ad.block = g := e'; omega
  · refine ((ht0.mono fun _ _ e => e.elim).trans h.touch (fun _ _ e => e)).trans (ht.mono (T := fun k => k = g) fun _ _ e => e) (fun k hk e => ?_)
    have e : k = g := e; omega
/-- Nothing was done. -/
theorem ConnPost.none {w w' : World} {c : Nat} {s : Cn.S} (h : ConnAt w c s) (ho : Cn.Ok s) (ht : Fresh w w') : ConnPost w c (s, Cn.r0) (.agg #[.slice none 0 0, .slice none 0 0, .bool false, .bool false, .int .u32 0, .int .i64 0]) w' :=
  ⟨ht.blk h (fun e => e), ho, ⟨Nat.zero_le _, Nat.zero_le _⟩, ⟨Option.none, 0, Option.none, 0, rfl, Sl.nil _ _, Sl.nil _ _, (fun _ e => nomatch e), (fun _ e => nomatch e)⟩, ht.mono fun _ _ e => e.elim⟩

namespace Cn
def failS (s : S) (code : Int) : SR := if s.state = 10 then fail (s, r0) code else (s, r0)
def silentS (s : S) : SR := if s.state = 10 then silent (s, r0) else (s, r0)
def expireS (s : S) : SR := expire (s, r0)
def hearS (s : S) (p : Pd) : SR := hear (Ru.of_ s.state p.kind) (Ru.letter p.kind) (s, r0) p
def bigAsk (kind : Int) (d : ByteArray) : Bool := decide (64 < (d.size : Int)) && (kind == 1 || kind == 3 || kind == 4)
def askErr (s : S) (kind : Int) (d : ByteArray) : Int := if kind < 1 ∨ 6 < kind then 10 else if bigAsk kind d then 6 else if Ru.may s.state kind then 0 else 8
def askS (s : S) (kind : Int) (d : ByteArray) : SR := if askErr s kind d = 0 then ask (s, r0) kind d else (s, r0)
end Cn

set_option maxHeartbeats 2000000 in
theorem silent_any {w : World} {c : Nat} {s : Cn.S} (h : ConnAt w c s) (ho : Cn.Ok s) :
    Calls Try.prog 18 #[.pointer (some ⟨c, 0, none⟩)] w fun e w' => ∃ v, e = .returned v ∧ ConnPost w c (Cn.silentS s) v w' := by
  have HC := Lib.hid h
  have HO := Lib.hid ho
  have HLT : Hid (c < w.heap.size) := Blk.lt h
  have HS2 : Hid (∀ W, Fresh w W → W.cell? ⟨c, 2, none⟩ = some (.int .i64 s.state)) := fun W hf => Blk.cell (hf.blk h (fun e => e)) 2
  clear h ho
  have HF : Hid (Fresh w (w.alloc (.cells #[.slice none 0 0, .slice none 0 0, .bool false, .bool false, .int .u32 0, .int .i64 0] 41))) := (Touch.refl _ w).alloc _
  have HR : Hid (Blk (w.alloc (.cells #[.slice none 0 0, .slice none 0 0, .bool false, .bool false, .int .u32 0, .int .i64 0] 41)) w.heap.size 41 [.slice none 0 0, .slice none 0 0, .bool false, .bool false, .int .u32 0, .int .i64 0]) := Blk.new _ _ _
  have HGG : Hid (w.heap.size ≤ w.heap.size) := Nat.le_refl _
  have HGW : Hid (w.heap.size < (w.alloc (.cells #[.slice none 0 0, .slice none 0 0, .bool false, .bool false, .int .u32 0, .int .i64 0] 41)).heap.size) := by simp [Hid]
  have s2 := HS2.out _ HF.out
  by_cases e1 : s.state = 10
  · have b1 : (s.state != 10) = false := by simpa using e1
    have HE : Hid (Cn.silentS s = (Cn.silent (s, Cn.r0))) := by unfold Hid Cn.silentS; rw [if_pos e1]
    clear e1
    rw [HE.out]
    go_enter Try.func18, Try.ntmps18
    go_upto_region 1 with (fail)
    generalize (w.alloc (.cells #[.slice none 0 0, .slice none 0 0, .bool false, .bool false, .int .u32 0, .int .i64 0] 41)) = W at *
    have HCW : Hid (ConnAt W c s) := HF.out.blk HC.out (fun e => e)
    go_wp2_with fail
    refine (done_any (m := 3) HCW.out HO.out 38 #[] (by omega) (enters_of Try.func38 (by kernel_rfl) rfl) (y := (Cn.silent (s, Cn.r0))) (fun W0 a w1 hf1 hf2 hi => (silentcl_any hi (by omega)).mono fun e w' h => ⟨h.1, h.2.1.wide (by omega), h.2.2⟩)).mono ?_
    rintro e w2 ⟨v, rfl, hp⟩
    have HP := Lib.hid hp
    obtain ⟨A1, c1, A2, c2, rfl, _, _, _, _⟩ := hp.res
    have hbr := hp.touch.blk HR.out (by intro e; have e : w.heap.size = c := e; have := HLT.out; omega)
    clear hp
    have HBR := Lib.hid hbr
    have r0 := HBR.out.cell 0
    have r1 := HBR.out.cell 1
    have r2 := HBR.out.cell 2
    have r3 := HBR.out.cell 3
    have r4 := HBR.out.cell 4
    have r5 := HBR.out.cell 5
    have f0 := HBR.out.frozen 0
    have f1 := HBR.out.frozen 1
    have f2 := HBR.out.frozen 2
    have f3 := HBR.out.frozen 3
    have f4 := HBR.out.frozen 4
    have f5 := HBR.out.frozen 5
    simp only [List.getElem?_cons_zero, List.getElem?_cons_succ] at r0 r1 r2 r3 r4 r5
    clear hbr
    go_wp2
    obtain ⟨hb6, ht6⟩ := HBR.out.st6 (.slice A1 (Cn.silent (s, Cn.r0)).2.sigs.length c1) (.slice A2 (Cn.silent (s, Cn.r0)).2.units.length c2) (.bool (Cn.silent (s, Cn.r0)).2.begins) (.bool (Cn.silent (s, Cn.r0)).2.ends) (.int .u32 (Cn.silent (s, Cn.r0)).2.ms) (.int .i64 (Cn.silent (s, Cn.r0)).2.timer)
    have HX := Lib.hid (HP.out.stored HF.out HLT.out HGG.out HGW.out ht6)
    generalize ((((((w2.setCell ⟨w.heap.size, 0, none⟩ (.slice A1 (Cn.silent (s, Cn.r0)).2.sigs.length c1)).setCell ⟨w.heap.size, 1, none⟩ (.slice A2 (Cn.silent (s, Cn.r0)).2.units.length c2)).setCell ⟨w.heap.size, 2, none⟩ (.bool (Cn.silent (s, Cn.r0)).2.begins)).setCell ⟨w.heap.size, 3, none⟩ (.bool (Cn.silent (s, Cn.r0)).2.ends)).setCell ⟨w.heap.size, 4, none⟩ (.int .u32 (Cn.silent (s, Cn.r0)).2.ms)).setCell ⟨w.heap.size, 5, none⟩ (.int .i64 (Cn.silent (s, Cn.r0)).2.timer)) = w6 at *
    have z0 := hb6.cell 0
    have z1 := hb6.cell 1
    have z2 := hb6.cell 2
    have z3 := hb6.cell 3
    have z4 := hb6.cell 4
    have z5 := hb6.cell 5
    simp only [List.getElem?_cons_zero, List.getElem?_cons_succ] at z0 z1 z2 z3 z4 z5
    exact bodyPost_ret (v := _) (by simp [results, Try.results18, go_sem, z0, z1, z2, z3, z4, z5]) rfl ⟨_, rfl, HX.out⟩
  · have b1 : (s.state != 10) = true := by simpa using e1
    have HE : Hid (Cn.silentS s = (s, Cn.r0)) := by unfold Hid Cn.silentS; rw [if_neg e1]
    have HX := Lib.hid (ConnPost.none HC.out HO.out HF.out)
    clear e1
    rw [HE.out]
    go_enter Try.func18, Try.ntmps18
    go_wp2
    exact bodyPost_ret (v := _) (by simp [results, Try.results18, go_sem]) rfl ⟨_, rfl, HX.out⟩

set_option maxHeartbeats 2000000 in
theorem expire_any {w : World} {c : Nat} {s : Cn.S} (h : ConnAt w c s) (ho : Cn.Ok s) :
    Calls Try.prog 16 #[.pointer (some ⟨c, 0, none⟩)] w fun e w' => ∃ v, e = .returned v ∧ ConnPost w c (Cn.expireS s) v w' := by
  have HC := Lib.hid h
  have HO := Lib.hid ho
  have HLT : Hid (c < w.heap.size) := Blk.lt h
  have HS2 : Hid (∀ W, Fresh w W → W.cell? ⟨c, 2, none⟩ = some (.int .i64 s.state)) := fun W hf => Blk.cell (hf.blk h (fun e => e)) 2
  clear h ho
  have HF : Hid (Fresh w (w.alloc (.cells #[.slice none 0 0, .slice none 0 0, .bool false, .bool false, .int .u32 0, .int .i64 0] 41))) := (Touch.refl _ w).alloc _
  have HR : Hid (Blk (w.alloc (.cells #[.slice none 0 0, .slice none 0 0, .bool false, .bool false, .int .u32 0, .int .i64 0] 41)) w.heap.size 41 [.slice none 0 0, .slice none 0 0, .bool false, .bool false, .int .u32 0, .int .i64 0]) := Blk.new _ _ _
  have HGG : Hid (w.heap.size ≤ w.heap.size) := Nat.le_refl _
  have HGW : Hid (w.heap.size < (w.alloc (.cells #[.slice none 0 0, .slice none 0 0, .bool false, .bool false, .int .u32 0, .int .i64 0] 41)).heap.size) := by simp [Hid]
  have s2 := HS2.out _ HF.out
  have HE : Hid (Cn.expireS s = (Cn.expire (s, Cn.r0))) := rfl
  rw [HE.out]
  go_enter Try.func16, Try.ntmps16
  go_upto_region 1 with (fail)
  generalize (w.alloc (.cells #[.slice none 0 0, .slice none 0 0, .bool false, .bool false, .int .u32 0, .int .i64 0] 41)) = W at *
  have HCW : Hid (ConnAt W c s) := HF.out.blk HC.out (fun e => e)
  go_wp2_with fail
  refine (done_any (m := 3) HCW.out HO.out 34 #[] (by omega) (enters_of Try.func34 (by kernel_rfl) rfl) (y := (Cn.expire (s, Cn.r0))) (fun W0 a w1 hf1 hf2 hi => (expirecl_any hi (by omega)).mono fun e w' h => ⟨h.1, h.2.1.wide (by omega), h.2.2⟩)).mono ?_
  rintro e w2 ⟨v, rfl, hp⟩
  have HP := Lib.hid hp
  obtain ⟨A1, c1, A2, c2, rfl, _, _, _, _⟩ := hp.res
  have hbr := hp.touch.blk HR.out (by intro e; have e : w.heap.size = c := e; have := HLT.out; omega)
  clear hp
  have HBR := Lib.hid hbr
  have r0 := HBR.out.cell 0
  have r1 := HBR.out.cell 1
  have r2 := HBR.out.cell 2
  have r3 := HBR.out.cell 3
  have r4 := HBR.out.cell 4
  have r5 := HBR.out.cell 5
  have f0 := HBR.out.frozen 0
  have f1 := HBR.out.frozen 1
  have f2 := HBR.out.frozen 2
  have f3 := HBR.out.frozen 3
  have f4 := HBR.out.frozen 4
  have f5 := HBR.out.frozen 5
  simp only [List.getElem?_cons_zero, List.getElem?_cons_succ] at r0 r1 r2 r3 r4 r5
  clear hbr
  go_wp2
  obtain ⟨hb6, ht6⟩ := HBR.out.st6 (.slice A1 (Cn.expire (s, Cn.r0)).2.sigs.length c1) (.slice A2 (Cn.expire (s, Cn.r0)).2.units.length c2) (.bool (Cn.expire (s, Cn.r0)).2.begins) (.bool (Cn.expire (s, Cn.r0)).2.ends) (.int .u32 (Cn.expire (s, Cn.r0)).2.ms) (.int .i64 (Cn.expire (s, Cn.r0)).2.timer)
  have HX := Lib.hid (HP.out.stored HF.out HLT.out HGG.out HGW.out ht6)
  generalize ((((((w2.setCell ⟨w.heap.size, 0, none⟩ (.slice A1 (Cn.expire (s, Cn.r0)).2.sigs.length c1)).setCell ⟨w.heap.size, 1, none⟩ (.slice A2 (Cn.expire (s, Cn.r0)).2.units.length c2)).setCell ⟨w.heap.size, 2, none⟩ (.bool (Cn.expire (s, Cn.r0)).2.begins)).setCell ⟨w.heap.size, 3, none⟩ (.bool (Cn.expire (s, Cn.r0)).2.ends)).setCell ⟨w.heap.size, 4, none⟩ (.int .u32 (Cn.expire (s, Cn.r0)).2.ms)).setCell ⟨w.heap.size, 5, none⟩ (.int .i64 (Cn.expire (s, Cn.r0)).2.timer)) = w6 at *
  have z0 := hb6.cell 0
  have z1 := hb6.cell 1
  have z2 := hb6.cell 2
  have z3 := hb6.cell 3
  have z4 := hb6.cell 4
  have z5 := hb6.cell 5
  simp only [List.getElem?_cons_zero, List.getElem?_cons_succ] at z0 z1 z2 z3 z4 z5
  exact bodyPost_ret (v := _) (by simp [results, Try.results16, go_sem, z0, z1, z2, z3, z4, z5]) rfl ⟨_, rfl, HX.out⟩

set_option maxHeartbeats 2000000 in
theorem cfail_any {w : World} {c : Nat} {s : Cn.S} (h : ConnAt w c s) (ho : Cn.Ok s) (code : Int) :
    Calls Try.prog 10 #[.pointer (some ⟨c, 0, none⟩), .int .u8 code] w fun e w' => ∃ v, e = .returned v ∧ ConnPost w c (Cn.failS s code) v w' := by
  have HC := Lib.hid h
  have HO := Lib.hid ho
  have HLT : Hid (c < w.heap.size) := Blk.lt h
  have HS2 : Hid (∀ W, Fresh w W → W.cell? ⟨c, 2, none⟩ = some (.int .i64 s.state)) := fun W hf => Blk.cell (hf.blk h (fun e => e)) 2
  clear h ho
  have HF : Hid (Fresh w ((w.alloc (.cells #[.int .u8 code] 5)).alloc (.cells #[.slice none 0 0, .slice none 0 0, .bool false, .bool false, .int .u32 0, .int .i64 0] 41))) := ((Touch.refl _ w).alloc _).alloc _
  have HR : Hid (Blk ((w.alloc (.cells #[.int .u8 code] 5)).alloc (.cells #[.slice none 0 0, .slice none 0 0, .bool false, .bool false, .int .u32 0, .int .i64 0] 41)) (w.heap.size + 1) 41 [.slice none 0 0, .slice none 0 0, .bool false, .bool false, .int .u32 0, .int .i64 0]) := by
    have := Blk.new (w.alloc (.cells #[.int .u8 code] 5)) 41 [.slice none 0 0, .slice none 0 0, .bool false, .bool false, .int .u32 0, .int .i64 0]
    rwa [show (w.alloc (.cells #[.int .u8 code] 5)).heap.size = w.heap.size + 1 by simp] at this
  have HBC : Hid (Blk ((w.alloc (.cells #[.int .u8 code] 5)).alloc (.cells #[.slice none 0 0, .slice none 0 0, .bool false, .bool false, .int .u32 0, .int .i64 0] 41)) w.heap.size 5 [.int .u8 code]) := (Blk.new w _ _).alloc _
  have HGG : Hid (w.heap.size ≤ w.heap.size + 1) := Nat.le_succ _
  have HGW : Hid (w.heap.size + 1 < ((w.alloc (.cells #[.int .u8 code] 5)).alloc (.cells #[.slice none 0 0, .slice none 0 0, .bool false, .bool false, .int .u32 0, .int .i64 0] 41)).heap.size) := by simp [Hid]
  have s2 := HS2.out _ HF.out
  by_cases e1 : s.state = 10
  · have b1 : (s.state != 10) = false := by simpa using e1
    have HE : Hid (Cn.failS s code = (Cn.fail (s, Cn.r0) code)) := by unfold Hid Cn.failS; rw [if_pos e1]
    clear e1
    rw [HE.out]
    go_enter Try.func10, Try.ntmps10
    go_upto_region 1 with (fail)
    generalize ((w.alloc (.cells #[.int .u8 code] 5)).alloc (.cells #[.slice none 0 0, .slice none 0 0, .bool false, .bool false, .int .u32 0, .int .i64 0] 41)) = W at *
    have HCW : Hid (ConnAt W c s) := HF.out.blk HC.out (fun e => e)
    go_wp2_with fail
    refine (done_any (m := 2) HCW.out HO.out 21 #[.pointer (some ⟨w.heap.size, 0, none⟩)] (by omega) (enters_of Try.func21 (by kernel_rfl) rfl) (y := (Cn.fail (s, Cn.r0) code)) (fun W0 a w1 hf1 hf2 hi => (failcl_any hi (by omega) (hf2.blk (hf1.blk HBC.out (fun e => e)) (fun e => e)) ⟨Nat.lt_of_lt_of_le HBC.out.lt hf1.size, by have := HLT.out; omega⟩).mono fun e w' h => ⟨h.1, h.2.1.wide (by omega), h.2.2⟩)).mono ?_
    rintro e w2 ⟨v, rfl, hp⟩
    have HP := Lib.hid hp
    obtain ⟨A1, c1, A2, c2, rfl, _, _, _, _⟩ := hp.res
    have hbr := hp.touch.blk HR.out (by intro e; have e : w.heap.size + 1 = c := e; have := HLT.out; omega)
    clear hp
    have HBR := Lib.hid hbr
    have r0 := HBR.out.cell 0
    have r1 := HBR.out.cell 1
    have r2 := HBR.out.cell 2
    have r3 := HBR.out.cell 3
    have r4 := HBR.out.cell 4
    have r5 := HBR.out.cell 5
    have f0 := HBR.out.frozen 0
    have f1 := HBR.out.frozen 1
    have f2 := HBR.out.frozen 2
    have f3 := HBR.out.frozen 3
    have f4 := HBR.out.frozen 4
    have f5 := HBR.out.frozen 5
    simp only [List.getElem?_cons_zero, List.getElem?_cons_succ] at r0 r1 r2 r3 r4 r5
    clear hbr
    go_wp2
    obtain ⟨hb6, ht6⟩ := HBR.out.st6 (.slice A1 (Cn.fail (s, Cn.r0) code).2.sigs.length c1) (.slice A2 (Cn.fail (s, Cn.r0) code).2.units.length c2) (.bool (Cn.fail (s, Cn.r0) code).2.begins) (.bool (Cn.fail (s, Cn.r0) code).2.ends) (.int .u32 (Cn.fail (s, Cn.r0) code).2.ms) (.int .i64 (Cn.fail (s, Cn.r0) code).2.timer)
    have HX := Lib.hid (HP.out.stored HF.out HLT.out HGG.out HGW.out ht6)
    generalize ((((((w2.setCell ⟨w.heap.size + 1, 0, none⟩ (.slice A1 (Cn.fail (s, Cn.r0) code).2.sigs.length c1)).setCell ⟨w.heap.size + 1, 1, none⟩ (.slice A2 (Cn.fail (s, Cn.r0) code).2.units.length c2)).setCell ⟨w.heap.size + 1, 2, none⟩ (.bool (Cn.fail (s, Cn.r0) code).2.begins)).setCell ⟨w.heap.size + 1, 3, none⟩ (.bool (Cn.fail (s, Cn.r0) code).2.ends)).setCell ⟨w.heap.size + 1, 4, none⟩ (.int .u32 (Cn.fail (s, Cn.r0) code).2.ms)).setCell ⟨w.heap.size + 1, 5, none⟩ (.int .i64 (Cn.fail (s, Cn.r0) code).2.timer)) = w6 at *
    have z0 := hb6.cell 0
    have z1 := hb6.cell 1
    have z2 := hb6.cell 2
    have z3 := hb6.cell 3
    have z4 := hb6.cell 4
    have z5 := hb6.cell 5
    simp only [List.getElem?_cons_zero, List.getElem?_cons_succ] at z0 z1 z2 z3 z4 z5
    exact bodyPost_ret (v := _) (by simp [results, Try.results10, go_sem, z0, z1, z2, z3, z4, z5]) rfl ⟨_, rfl, HX.out⟩
  · have b1 : (s.state != 10) = true := by simpa using e1
    have HE : Hid (Cn.failS s code = (s, Cn.r0)) := by unfold Hid Cn.failS; rw [if_neg e1]
    have HX := Lib.hid (ConnPost.none HC.out HO.out HF.out)
    clear e1
    rw [HE.out]
    go_enter Try.func10, Try.ntmps10
    go_wp2
    exact bodyPost_ret (v := _) (by simp [results, Try.results10, go_sem]) rfl ⟨_, rfl, HX.out⟩

set_option maxHeartbeats 2000000 in
theorem creceive_any {w : World} {c : Nat} {s : Cn.S} (h : ConnAt w c s) (ho : Cn.Ok s) (p : Cn.Pd) :
    Calls Try.prog 15 #[.pointer (some ⟨c, 0, none⟩), pduV p] w fun e w' => ∃ v, e = .returned v ∧ ConnPost w c (Cn.hearS s p) v w' := by
  have HC := Lib.hid h
  have HO := Lib.hid ho
  have HLT : Hid (c < w.heap.size) := Blk.lt h
  have HS2 : Hid (∀ W, Fresh w W → W.cell? ⟨c, 2, none⟩ = some (.int .i64 s.state)) := fun W hf => Blk.cell (hf.blk h (fun e => e)) 2
  clear h ho
  unfold pduV
  have HF : Hid (Fresh w (((w.alloc (.cells #[.pointer (some ⟨c, 0, none⟩)] 25)).alloc (.cells #[.int .i64 p.kind, .int .i64 p.sq, .int .u32 p.n, .int .u32 p.ps, .int .u32 p.mr, .slice p.lA p.ln p.lc, .bool p.self, .string p.data] 54)).alloc (.cells #[.slice none 0 0, .slice none 0 0, .bool false, .bool false, .int .u32 0, .int .i64 0] 41))) := (((Touch.refl _ w).alloc _).alloc _).alloc _
  have HR : Hid (Blk (((w.alloc (.cells #[.pointer (some ⟨c, 0, none⟩)] 25)).alloc (.cells #[.int .i64 p.kind, .int .i64 p.sq, .int .u32 p.n, .int .u32 p.ps, .int .u32 p.mr, .slice p.lA p.ln p.lc, .bool p.self, .string p.data] 54)).alloc (.cells #[.slice none 0 0, .slice none 0 0, .bool false, .bool false, .int .u32 0, .int .i64 0] 41)) (w.heap.size + 1 + 1) 41 [.slice none 0 0, .slice none 0 0, .bool false, .bool false, .int .u32 0, .int .i64 0]) := by
    have := Blk.new ((w.alloc (.cells #[.pointer (some ⟨c, 0, none⟩)] 25)).alloc (.cells #[.int .i64 p.kind, .int .i64 p.sq, .int .u32 p.n, .int .u32 p.ps, .int .u32 p.mr, .slice p.lA p.ln p.lc, .bool p.self, .string p.data] 54)) 41 [.slice none 0 0, .slice none 0 0, .bool false, .bool false, .int .u32 0, .int .i64 0]
    rwa [show ((w.alloc (.cells #[.pointer (some ⟨c, 0, none⟩)] 25)).alloc (.cells #[.int .i64 p.kind, .int .i64 p.sq, .int .u32 p.n, .int .u32 p.ps, .int .u32 p.mr, .slice p.lA p.ln p.lc, .bool p.self, .string p.data] 54)).heap.size = w.heap.size + 1 + 1 by simp] at this
  have HBC : Hid (Blk (((w.alloc (.cells #[.pointer (some ⟨c, 0, none⟩)] 25)).alloc (.cells #[.int .i64 p.kind, .int .i64 p.sq, .int .u32 p.n, .int .u32 p.ps, .int .u32 p.mr, .slice p.lA p.ln p.lc, .bool p.self, .string p.data] 54)).alloc (.cells #[.slice none 0 0, .slice none 0 0, .bool false, .bool false, .int .u32 0, .int .i64 0] 41)) w.heap.size 25 [.pointer (some ⟨c, 0, none⟩)]) := ((Blk.new w _ _).alloc _).alloc _
  have HBP : Hid (Blk (((w.alloc (.cells #[.pointer (some ⟨c, 0, none⟩)] 25)).alloc (.cells #[.int .i64 p.kind, .int .i64 p.sq, .int .u32 p.n, .int .u32 p.ps, .int .u32 p.mr, .slice p.lA p.ln p.lc, .bool p.self, .string p.data] 54)).alloc (.cells #[.slice none 0 0, .slice none 0 0, .bool false, .bool false, .int .u32 0, .int .i64 0] 41)) (w.heap.size + 1) 54 (pduE.enc p)) := by
    have := (Blk.new (w.alloc (.cells #[.pointer (some ⟨c, 0, none⟩)] 25)) 54 (pduE.enc p)).alloc (.cells #[.slice none 0 0, .slice none 0 0, .bool false, .bool false, .int .u32 0, .int .i64 0] 41)
    rwa [show (w.alloc (.cells #[.pointer (some ⟨c, 0, none⟩)] 25)).heap.size = w.heap.size + 1 by simp] at this
  have HGG : Hid (w.heap.size ≤ w.heap.size + 1 + 1) := by unfold Hid; omega
  have HGW : Hid (w.heap.size + 1 + 1 < (((w.alloc (.cells #[.pointer (some ⟨c, 0, none⟩)] 25)).alloc (.cells #[.int .i64 p.kind, .int .i64 p.sq, .int .u32 p.n, .int .u32 p.ps, .int .u32 p.mr, .slice p.lA p.ln p.lc, .bool p.self, .string p.data] 54)).alloc (.cells #[.slice none 0 0, .slice none 0 0, .bool false, .bool false, .int .u32 0, .int .i64 0] 41)).heap.size) := by simp [Hid]
  have c0 : (((w.alloc (.cells #[.pointer (some ⟨c, 0, none⟩)] 25)).alloc (.cells #[.int .i64 p.kind, .int .i64 p.sq, .int .u32 p.n, .int .u32 p.ps, .int .u32 p.mr, .slice p.lA p.ln p.lc, .bool p.self, .string p.data] 54)).alloc (.cells #[.slice none 0 0, .slice none 0 0, .bool false, .bool false, .int .u32 0, .int .i64 0] 41)).cell? ⟨w.heap.size, 0, none⟩ = some (.pointer (some ⟨c, 0, none⟩)) := HBC.out.cell 0
  go_enter Try.func15, Try.ntmps15
  go_upto_region 1 with (fail)
  generalize (((w.alloc (.cells #[.pointer (some ⟨c, 0, none⟩)] 25)).alloc (.cells #[.int .i64 p.kind, .int .i64 p.sq, .int .u32 p.n, .int .u32 p.ps, .int .u32 p.mr, .slice p.lA p.ln p.lc, .bool p.self, .string p.data] 54)).alloc (.cells #[.slice none 0 0, .slice none 0 0, .bool false, .bool false, .int .u32 0, .int .i64 0] 41)) = W at *
  have HCW : Hid (ConnAt W c s) := HF.out.blk HC.out (fun e => e)
  go_wp2_with fail
  refine (done_any (m := 7) HCW.out HO.out 27 #[.pointer (some ⟨w.heap.size, 0, none⟩), .pointer (some ⟨w.heap.size + 1, 0, none⟩)] (by omega) (enters_of Try.func27 (by kernel_rfl) rfl) (y := (Cn.hearS s p)) (fun W0 a w1 hf1 hf2 hi => (hearcl_any hi (by omega) (hf2.blk (hf1.blk HBC.out (fun e => e)) (fun e => e)) (hf2.blk (hf1.blk HBP.out (fun e => e)) (fun e => e)) ⟨⟨Nat.lt_of_lt_of_le HBC.out.lt hf1.size, by have := HLT.out; omega⟩, ⟨Nat.lt_of_lt_of_le HBP.out.lt hf1.size, by have := HLT.out; omega⟩⟩).mono fun e w' h => ⟨h.1, h.2.1.wide (by omega), h.2.2⟩)).mono ?_
  rintro e w2 ⟨v, rfl, hp⟩
  have HP := Lib.hid hp
  obtain ⟨A1, c1, A2, c2, rfl, _, _, _, _⟩ := hp.res
  have hbr := hp.touch.blk HR.out (by intro e; have e : w.heap.size + 1 + 1 = c := e; have := HLT.out; omega)
  clear hp
  have HBR := Lib.hid hbr
  have r0 := HBR.out.cell 0
  have r1 := HBR.out.cell 1
  have r2 := HBR.out.cell 2
  have r3 := HBR.out.cell 3
  have r4 := HBR.out.cell 4
  have r5 := HBR.out.cell 5
  have f0 := HBR.out.frozen 0
  have f1 := HBR.out.frozen 1
  have f2 := HBR.out.frozen 2
  have f3 := HBR.out.frozen 3
  have f4 := HBR.out.frozen 4
  have f5 := HBR.out.frozen 5
  simp only [List.getElem?_cons_zero, List.getElem?_cons_succ] at r0 r1 r2 r3 r4 r5
  clear hbr
  go_wp2
  obtain ⟨hb6, ht6⟩ := HBR.out.st6 (.slice A1 (Cn.hearS s p).2.sigs.length c1) (.slice A2 (Cn.hearS s p).2.units.length c2) (.bool (Cn.hearS s p).2.begins) (.bool (Cn.hearS s p).2.ends) (.int .u32 (Cn.hearS s p).2.ms) (.int .i64 (Cn.hearS s p).2.timer)
  have HX := Lib.hid (HP.out.stored HF.out HLT.out HGG.out HGW.out ht6)
  generalize ((((((w2.setCell ⟨w.heap.size + 1 + 1, 0, none⟩ (.slice A1 (Cn.hearS s p).2.sigs.length c1)).setCell ⟨w.heap.size + 1 + 1, 1, none⟩ (.slice A2 (Cn.hearS s p).2.units.length c2)).setCell ⟨w.heap.size + 1 + 1, 2, none⟩ (.bool (Cn.hearS s p).2.begins)).setCell ⟨w.heap.size + 1 + 1, 3, none⟩ (.bool (Cn.hearS s p).2.ends)).setCell ⟨w.heap.size + 1 + 1, 4, none⟩ (.int .u32 (Cn.hearS s p).2.ms)).setCell ⟨w.heap.size + 1 + 1, 5, none⟩ (.int .i64 (Cn.hearS s p).2.timer)) = w6 at *
  have z0 := hb6.cell 0
  have z1 := hb6.cell 1
  have z2 := hb6.cell 2
  have z3 := hb6.cell 3
  have z4 := hb6.cell 4
  have z5 := hb6.cell 5
  simp only [List.getElem?_cons_zero, List.getElem?_cons_succ] at z0 z1 z2 z3 z4 z5
  exact bodyPost_ret (v := _) (by simp [results, Try.results15, go_sem, z0, z1, z2, z3, z4, z5]) rfl ⟨_, rfl, HX.out⟩
end Go.Proofs.Ytkmegkjkbalooaa
