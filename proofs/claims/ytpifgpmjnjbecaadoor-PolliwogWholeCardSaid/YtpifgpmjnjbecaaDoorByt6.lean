/-
  pdu.Bytes of a unit that may be.
-/
import Derived.Test.YtpifgpmjnjbecaaDoorWds6
import Derived.Test.YtpifgpmjnjbecaaDoorChk6b
import Derived.Test.YtpifgpmjnjbecaaDoorBld
import Derived.Deep.RegionHeld3
import Derived.Lib.Repeat
namespace Go.Proofs.YtpifgpmjnjbecaaDoor
open Go.RowKit

theorem rep6_any (k : Nat) (hk : k ≤ 1000) (W : World) : Calls Tryd.prog 25 #[.string ⟨#[0]⟩, .int .i64 (k : Int)] W fun e w' => e = .returned (.string (Wh.B (List.replicate k 0))) ∧ Fresh W w' := by
  refine (Tryd.strings_Repeat ⟨#[0]⟩ k W (by omega) (by show 1 * _ ≤ _; omega)).mono ?_
  rintro e w' ⟨rfl, hb⟩
  refine ⟨?_, Touch.of_below hb fun _ hk _ => hk⟩
  have := Lib.repeatL_replicate 0 1 k
  rw [Nat.mul_one] at this
  show Ending.returned (Value.string ⟨(Lib.repeatL (List.replicate 1 0) k).toArray⟩) = _
  rw [this]
  rfl

set_option maxRecDepth 10000 in
set_option maxHeartbeats 4000000 in
theorem bytes6_any (p : Wh.P) (A : Option Addr) (c : Nat) (w : World) (hr : Rd numE w A c p.l) (hck : Wh.ck p = 0) :
    Calls Tryd.prog 10 #[pV p A c] w fun e w' => e = .returned (.string (Wh.B (Wh.bytesS (Wh.shape p.kind) p))) ∧ Fresh w w' := by
  have hm := hr.1
  have hm2 := hr.2.1
  unfold maxLen at hm2
  have hok := Wh.ok_of _ _ hck
  have hds := hok.dsize (Wh.shape_ok p.kind)
  have hki := Wh.shape_is _ hok.is
  have hn := hok.n
  have hps := hok.ps
  have hmr := hok.mr
  have HLL := Lib.hid hok.l
  have hll := hok.ll
  have hq0 := hok.sq0
  have hq1 := hok.sq1
  clear hok
  have HCK : Hid (∀ W, Rd numE W A c p.l → Calls Tryd.prog 9 #[pV p A c] W fun e w' => e = .returned (.int .i64 0) ∧ Fresh W w') := fun W h => by
    have := check6_any p A c W h (by omega)
    rw [hck] at this
    exact this
  have HWD : Hid (∀ W, Rd numE W A c p.l → Calls Tryd.prog 26 #[pV p A c] W fun e w' => ∃ A' c', e = .returned (.slice A' (Wh.wordsS (Wh.shape p.kind) p).length c') ∧ Mine u32E W w' A' c' (Wh.wordsS (Wh.shape p.kind) p)) := fun W h => words6_any p A c W h hq0 hq1 hll
  have HWL : Hid (∀ x ∈ Wh.wordsS (Wh.shape p.kind) p, 0 ≤ x ∧ x ≤ 4294967295) := by
    intro x hx
    unfold Wh.wordsS at hx
    simp only [List.mem_append] at hx
    rcases hx with hx | hx | hx | hx
    · split at hx
      · rw [List.mem_singleton.1 hx]; omega
      · cases hx
    · have := HLL.out x hx; omega
    · split at hx
      · rw [List.mem_singleton.1 hx]; omega
      · cases hx
    · split at hx
      · rw [List.mem_singleton.1 hx]; omega
      · cases hx
  have hwl : (Wh.wordsS (Wh.shape p.kind) p).length ≤ 200 := by
    unfold Wh.wordsS
    simp only [List.length_append]
    have e : ∀ (b : Bool) (x : Int), (if b = true then [x] else []).length ≤ 1 := by intro b x; cases b <;> simp
    have e1 := e (Wh.shape p.kind).sq p.sq
    have e2 := e (Wh.shape p.kind).ps p.ps
    have e3 := e (Wh.shape p.kind).mr p.mr
    omega
  have HBS : Hid (Wh.bytesS (Wh.shape p.kind) p = (p.data.data.toList ++ List.replicate (Wh.pad p) 0) ++ ((Wh.wordsS (Wh.shape p.kind) p).flatMap Wh.four ++ Wh.four (Wh.lastW p))) := rfl
  have hlast : Wh.lastW p = (Wh.pad p : Int) * 1073741824 + (if p.self then 536870912 else 0) + p.kind * 16777216 + p.n := rfl
  have hpad : (4 - (p.data.size : Int) % 4) % 4 = (Wh.pad p : Int) := by unfold Wh.pad; omega
  have hpad2 : -((p.data.size : Int) % 4) % 4 = (Wh.pad p : Int) := by unfold Wh.pad; omega
  have hpl := Wh.pad_lt p
  have hlw : 0 ≤ Wh.lastW p ∧ Wh.lastW p ≤ 4294967295 := by
    rw [hlast]
    split <;> omega
  have HRP := Lib.hid (rep6_any (Wh.pad p) (by omega))
  generalize Wh.bytesS (Wh.shape p.kind) p = R at *
  generalize Wh.wordsS (Wh.shape p.kind) p = ws at *
  generalize Wh.lastW p = lw at *
  generalize Wh.pad p = pd at *
  obtain ⟨kind, sq, n, ps, mr, l, self, data⟩ := p
  unfold pV at *
  simp only at hm hm2 hds hki hn hps hmr HLL hll hq0 hq1 HCK HWD HBS hlast hpad hpad2 hr ⊢
  clear hck HLL hmr hps
  have HR := Lib.hid hr
  clear hr
  have HF : Hid (Fresh w (w.alloc (.cells #[.int .i64 kind, .int .i64 sq, .int .u32 n, .int .u32 ps, .int .u32 mr, .slice A l.length c, .bool self, .string data] 32))) := (Touch.refl _ w).alloc _
  have HB : Hid (Blk (w.alloc (.cells #[.int .i64 kind, .int .i64 sq, .int .u32 n, .int .u32 ps, .int .u32 mr, .slice A l.length c, .bool self, .string data] 32)) w.heap.size 32 [.int .i64 kind, .int .i64 sq, .int .u32 n, .int .u32 ps, .int .u32 mr, .slice A l.length c, .bool self, .string data]) := Blk.new _ _ _
  go_enter Tryd.func10, Tryd.ntmps10
  go_wp2_with fail
  refine (HCK.out _ (HR.out.touch HF.out (fun _ _ _ h => h))).mono ?_
  rintro e w2 ⟨rfl, f2⟩
  have HB2 : Hid (Blk w2 w.heap.size 32 [.int .i64 kind, .int .i64 sq, .int .u32 n, .int .u32 ps, .int .u32 mr, .slice A l.length c, .bool self, .string data]) := f2.blk HB.out (fun h => h)
  have HF2 : Hid (Fresh w w2) := HF.out.trans f2 (fun _ _ h => h)
  clear HB HF f2
  have hgw : ∃ g, g = w.heap.size := ⟨_, rfl⟩
  obtain ⟨g, hg⟩ := hgw
  rw [← hg] at HB2 ⊢
  have HG := Lib.hid hg
  clear hg
  go_upto_region 4 with (fail)
  have HBD : Hid (Bd w2.heap.size w2.heap.size [] (w2.alloc (.cells #[.pointer none, .slice none 0 0] 68))) := Bd.new w2
  have HB3 : Hid (Blk (w2.alloc (.cells #[.pointer none, .slice none 0 0] 68)) g 32 [.int .i64 kind, .int .i64 sq, .int .u32 n, .int .u32 ps, .int .u32 mr, .slice A l.length c, .bool self, .string data]) := HB2.out.alloc _
  have HLA := Lib.hid hlast
  have HBL : w2.heap.size < (w2.alloc (.cells #[.pointer none, .slice none 0 0] 68)).heap.size := by simp
  have HF3 : Hid (Fresh w (w2.alloc (.cells #[.pointer none, .slice none 0 0] 68))) := HF2.out.alloc _
  have hgb : g < w2.heap.size := HB2.out.lt
  have hwb : w.heap.size ≤ w2.heap.size := HF2.out.size
  have HMB : Hid (w2.heap.size + 1 ≤ (w2.alloc (.cells #[.pointer none, .slice none 0 0] 68)).heap.size) := by show _ ≤ _; simp
  clear hlast HB2 HF2 HBL
  generalize (w2.alloc (.cells #[.pointer none, .slice none 0 0] 68)) = w3 at *
  generalize w2.heap.size = b at *
  have d7 : w3.cell? ⟨g, 7, none⟩ = some (.string data) := HB3.out.cell 7
  have hzr : (Wh.B (List.replicate pd 0)).size = pd := by rw [Wh.B_size, List.length_replicate]
  have hcat : data ++ Wh.B (List.replicate pd 0) = Wh.B (data.data.toList ++ List.replicate pd 0) := by
    rw [← Wh.B_app, Wh.B_of]
  have hfl : (data.data.toList ++ List.replicate pd (0 : UInt8)).length ≤ 300 := by
    rw [List.length_append, List.length_replicate, ← Lib.size_eq]
    omega
  obtain ⟨fr, hfr⟩ : ∃ fr, fr = data.data.toList ++ List.replicate pd (0 : UInt8) := ⟨_, rfl⟩
  rw [← hfr] at hcat hfl HBS
  clear hfr
  go_upto_region 5 with (fail)
  rw [hpad]
  have HGB := Lib.hid hgb
  have HWB := Lib.hid hwb
  have hcs : (9223372036854775807 < data.size + pd) = False := eq_false (by omega)
  have hcs2 : data.size + pd ≤ 9223372036854775807 := by omega
  clear hgb hwb hpad hpad2 hm hm2
  go_region_held3 (fun wx => wx.cell? ⟨g, 7, none⟩ = some (.string data))
    (first
      | assumption
      | exact FK.out.1.cell 7)
    (first
      | (go_simp; go_at_call 25; refine (HRP.out _).mono ?_; rintro e w4 ⟨rfl, f4⟩; have FK : Hid (Blk w4 g 32 [.int .i64 kind, .int .i64 sq, .int .u32 n, .int .u32 ps, .int .u32 mr, .slice A l.length c, .bool self, .string data] ∧ Fresh w w4 ∧ Bd b b [] w4 ∧ b < w4.heap.size) := ⟨(f4.blk HB3.out (fun h => h)), HF3.out.drew.trans f4 (fun _ _ h => h), Bd.fresh HBD.out ((Touch.refl _ _).drew.trans f4 (fun _ _ h => h)), Nat.lt_of_lt_of_le (Nat.lt_of_succ_le HMB.out) f4.size⟩; clear f4)
      | (go_simp; go_at_call 24; refine (wrs_any b b [] fr _ FK.out.2.2.1 (by rw [List.length_nil]; omega) (Nat.le_of_lt FK.out.2.2.2)).mono ?_; rintro e w5 ⟨rfl, hbd, hkp⟩; have FK5 : Hid (Blk w5 g 32 [.int .i64 kind, .int .i64 sq, .int .u32 n, .int .u32 ps, .int .u32 mr, .slice A l.length c, .bool self, .string data] ∧ Fresh w w5 ∧ Bd b b fr w5 ∧ b < w5.heap.size) := ⟨hkp.blk FK.out.1 (Nat.ne_of_lt HGB.out) (by decide), hkp.fresh FK.out.2.1 HWB.out, hbd, Nat.lt_of_lt_of_le FK.out.2.2.2 hkp.below.size⟩; clear FK hbd hkp; have FK := FK5; clear FK5))
  obtain ⟨hb5, hf5, hd5, hlt5⟩ := FK.out
  have HB5 := Lib.hid hb5
  have HF5 := Lib.hid hf5
  have HD5 := Lib.hid hd5
  clear FK hb5 hf5 hd5 HRP hcat hzr hcs hcs2 d7 HBD HB3 HF3 HMB
  have e0 : w5.cell? ⟨g, 0, none⟩ = some (.int .i64 kind) := HB5.out.cell 0
  have e1 : w5.cell? ⟨g, 1, none⟩ = some (.int .i64 sq) := HB5.out.cell 1
  have e2 : w5.cell? ⟨g, 2, none⟩ = some (.int .u32 n) := HB5.out.cell 2
  have e3 : w5.cell? ⟨g, 3, none⟩ = some (.int .u32 ps) := HB5.out.cell 3
  have e4 : w5.cell? ⟨g, 4, none⟩ = some (.int .u32 mr) := HB5.out.cell 4
  have e5 : w5.cell? ⟨g, 5, none⟩ = some (.slice A l.length c) := HB5.out.cell 5
  have e6 : w5.cell? ⟨g, 6, none⟩ = some (.bool self) := HB5.out.cell 6
  have e7 : w5.cell? ⟨g, 7, none⟩ = some (.string data) := HB5.out.cell 7
  go_wp2_with fail
  refine (HWD.out _ (HR.out.touch HF5.out (fun _ _ _ h => h))).mono ?_
  rintro e w6 ⟨A1, c1, rfl, m6⟩
  have HB6 : Hid (Blk w6 g 32 [.int .i64 kind, .int .i64 sq, .int .u32 n, .int .u32 ps, .int .u32 mr, .slice A l.length c, .bool self, .string data]) := m6.fresh.blk HB5.out (fun h => h)
  have HD6 : Hid (Bd b b fr w6) := Bd.fresh HD5.out m6.fresh
  have HF6 : Hid (Fresh w w6) := HF5.out.trans m6.fresh (fun _ _ h => h)
  have HS6 := Lib.hid m6.sl
  have HA6 : Hid (∀ ad, A1 = some ad → ad.block ≠ b) := fun ad e h => by have := m6.base ad e; omega
  have hlt6 : b < w6.heap.size := Nat.lt_of_lt_of_le hlt5 m6.fresh.size
  have hwl2 : ws.length ≤ 9223372036854775807 := by omega
  clear m6 e0 e1 e2 e3 e4 e5 e6 e7 HB5 HD5 HF5 hlt5 HCK HWD HR
  go_wp2_with fail
  go_loopw [25] (fun i wr => ∃ k : Nat, k ≤ ws.length ∧ i = .int .i64 k ∧ Hid (Bd b b (fr ++ (ws.take k).flatMap Wh.four) wr) ∧ Hid (Sl u32E wr A1 c1 ws) ∧ Hid (Blk wr g 32 [.int .i64 kind, .int .i64 sq, .int .u32 n, .int .u32 ps, .int .u32 mr, .slice A l.length c, .bool self, .string data]) ∧ Hid (Fresh w wr) ∧ Hid (b < wr.heap.size)) (fun i _ => ws.length - (intOf i).toNat)
  case atStart => exact ⟨0, Nat.zero_le _, rfl, by simpa using HD6, HS6, HB6, HF6, hlt6⟩
  case round =>
    obtain ⟨k, hk, rfl, HD, HS, HB, HF, HL⟩ := hrel
    by_cases hlt : k < ws.length
    · obtain ⟨gb, o, hA, hgb, hcl⟩ := HS.out.u32_at k hlt
      have hx := HWL.out (ws.getD k 0) (by rw [show ws.getD k 0 = ws[k] by simp [List.getD, List.getElem?_eq_getElem hlt]]; exact List.getElem_mem hlt)
      have HTK : Hid (fr ++ (ws.take (k + 1)).flatMap Wh.four = (fr ++ (ws.take k).flatMap Wh.four) ++ Wh.four (ws.getD k 0)) := by
        show _ = _
        rw [List.take_succ_eq_append_getElem hlt, List.flatMap_append, List.append_assoc]
        simp [List.getD, List.getElem?_eq_getElem hlt]
      have HCL : Hid ((fr ++ (ws.take k).flatMap Wh.four).length ≤ 2000) := by
        show _ ≤ _
        rw [List.length_append, Wh.fours_len, List.length_take]
        omega
      obtain ⟨x, hxe⟩ : ∃ x, x = ws.getD k 0 := ⟨_, rfl⟩
      rw [← hxe] at hcl hx HTK
      clear hxe
      obtain ⟨x0, x1⟩ := hx
      subst hA
      go_wp2_with fail
      refine (four_pdu x _ x0 x1).mono ?_
      rintro e w7 ⟨rfl, f7⟩
      have HD7 : Hid (Bd b b (fr ++ (ws.take k).flatMap Wh.four) w7) := Bd.fresh HD.out f7
      have HS7 : Hid (Sl u32E w7 (some ⟨gb, o, none⟩) c1 ws) := HS.out.touch f7 (fun _ _ h => h)
      have HB7 : Hid (Blk w7 g 32 [.int .i64 kind, .int .i64 sq, .int .u32 n, .int .u32 ps, .int .u32 mr, .slice A l.length c, .bool self, .string data]) := f7.blk HB.out (fun h => h)
      have HF7 : Hid (Fresh w w7) := HF.out.trans f7 (fun _ _ h => h)
      have HL7 : Hid (b < w7.heap.size) := Nat.lt_of_lt_of_le HL.out f7.size
      clear f7 HD HS HB HF HL hcl
      go_wp2_with fail
      refine (wrs_any b b _ (Wh.four x) _ HD7.out (by have := HCL.out; rw [Wh.four_len]; omega) (Nat.le_of_lt HL7.out)).mono ?_
      rintro e w8 ⟨rfl, hbd, hkp⟩
      have HD8 := Lib.hid hbd
      have HS8 : Hid (Sl u32E w8 (some ⟨gb, o, none⟩) c1 ws) := hkp.sl HS7.out HA6.out (by decide)
      have HB8 : Hid (Blk w8 g 32 [.int .i64 kind, .int .i64 sq, .int .u32 n, .int .u32 ps, .int .u32 mr, .slice A l.length c, .bool self, .string data]) := hkp.blk HB7.out (Nat.ne_of_lt HGB.out) (by decide)
      have HF8 : Hid (Fresh w w8) := hkp.fresh HF7.out HWB.out
      have HL8 : Hid (b < w8.heap.size) := Nat.lt_of_lt_of_le HL7.out hkp.below.size
      clear hbd hkp HD7 HS7 HB7 HF7 HL7
      go_wp2_with fail
      go_roundw
      case rel => exact ⟨k + 1, by omega, by go_num, by rw [HTK.out]; exact HD8, HS8, HB8, HF8, HL8⟩
      case measure => simp [intOf]; omega
    · have hke : k = ws.length := by omega
      have HTW : Hid (ws.take k = ws) := List.take_of_length_le (by omega)
      rw [HTW.out] at HD
      clear HS HWL HS6 HB6 HD6 HF6 hlt6 HA6 hke HTW
      obtain ⟨hn1, hn2⟩ := hn
      obtain ⟨hk1, hk2⟩ := hki
      obtain ⟨hlw0, hlw1⟩ := hlw
      have HCL : Hid ((fr ++ ws.flatMap Wh.four).length + (Wh.four lw).length ≤ 1000000) := by
        show _ ≤ _
        rw [List.length_append, Wh.fours_len, Wh.four_len]
        omega
      have r1 : IntKind.u32.wrap ((pd : Int) * 1073741824) = (pd : Int) * 1073741824 := IntWalk.u32_in _ (by omega)
      have r2 : IntKind.u32.wrap (pd : Int) = (pd : Int) := IntWalk.u32_in _ (by omega)
      have r3 : IntKind.u32.wrap (kind * 16777216) = kind * 16777216 := IntWalk.u32_in _ (by omega)
      have r4 : IntKind.u32.wrap kind = kind := IntWalk.u32_in _ (by omega)
      have r5 : (pd : Int) % 4294967296 = (pd : Int) := by omega
      have r6 : kind % 4294967296 = kind := by omega
      have r7 : (pd : Int) * 1073741824 % 4294967296 = (pd : Int) * 1073741824 := by omega
      have r8 : kind * 16777216 % 4294967296 = kind * 16777216 := by omega
      have r9 : IntKind.u32.wrap 0 = 0 := rfl
      have r10 : IntKind.u32.wrap 536870912 = 536870912 := rfl
      go_upto_region 11 with (fail)
      cases self
      · as_aux_lemma =>
        have o1 : bits .or .u32 ((pd : Int) * 1073741824) 0 = (pd : Int) * 1073741824 := by
          rw [Wh.or_add _ _ 30 (by omega) (by omega) (by omega) (by omega) (by omega) (by omega)]
          omega
        have o2 : bits .or .u32 ((pd : Int) * 1073741824) (kind * 16777216) = (pd : Int) * 1073741824 + kind * 16777216 := by
          rw [Wh.or_add _ _ 29 (by omega) (by omega) (by omega) (by omega) (by omega) (by omega)]
        have o3 : bits .or .u32 ((pd : Int) * 1073741824 + kind * 16777216) n = lw := by
          rw [Wh.or_add _ _ 24 (by omega) (by omega) (by omega) (by omega) (by omega) (by omega), HLA.out]
          simp
        have HBIT : Hid (∀ W, Calls Tryd.prog 28 #[.bool false] W fun e w' => e = .returned (.int .u32 0) ∧ W = w') := bit6_any false
        have c0 : wr.cell? ⟨g, 0, none⟩ = some (.int .i64 kind) := HB.out.cell 0
        have c2 : wr.cell? ⟨g, 2, none⟩ = some (.int .u32 n) := HB.out.cell 2
        have c6 : wr.cell? ⟨g, 6, none⟩ = some (.bool false) := HB.out.cell 6
        clear hn1 hn2 hk1 hk2 hpl
        go_region_held3 (fun wx => wx.cell? ⟨g, 0, none⟩ = some (.int .i64 kind) ∧ wx.cell? ⟨g, 2, none⟩ = some (.int .u32 n) ∧ wx.cell? ⟨g, 6, none⟩ = some (.bool false))
          (first
            | exact ⟨c0, c2, c6⟩
            | assumption
            | exact ⟨FK.out.1.cell 0, FK.out.1.cell 2, FK.out.1.cell 6⟩)
          (first
            | (go_simp; go_at_call 28; refine (HBIT.out _).mono ?_; rintro e w4 ⟨rfl, rfl⟩)
            | (go_simp; go_at_call 27; refine (four_pdu lw _ hlw0 hlw1).mono ?_; rintro e w9 ⟨rfl, f4⟩; have FK : Hid (Blk w9 g 32 [.int .i64 kind, .int .i64 sq, .int .u32 n, .int .u32 ps, .int .u32 mr, .slice A l.length c, .bool false, .string data] ∧ Fresh w w9 ∧ Bd b b (fr ++ ws.flatMap Wh.four) w9 ∧ b < w9.heap.size) := ⟨(f4.blk HB.out (fun h => h)), HF.out.drew.trans f4 (fun _ _ h => h), Bd.fresh HD.out ((Touch.refl _ _).drew.trans f4 (fun _ _ h => h)), Nat.lt_of_lt_of_le HL.out f4.size⟩; clear f4)
            | (go_simp; go_at_call 24; refine (wrs_any b b _ (Wh.four lw) _ FK.out.2.2.1 HCL.out (Nat.le_of_lt FK.out.2.2.2)).mono ?_; rintro e w10 ⟨rfl, hbd, hkp⟩; have FK5 : Hid (Blk w10 g 32 [.int .i64 kind, .int .i64 sq, .int .u32 n, .int .u32 ps, .int .u32 mr, .slice A l.length c, .bool false, .string data] ∧ Fresh w w10 ∧ Bd b b (fr ++ ws.flatMap Wh.four ++ Wh.four lw) w10 ∧ b < w10.heap.size) := ⟨hkp.blk FK.out.1 (Nat.ne_of_lt HGB.out) (by decide), hkp.fresh FK.out.2.1 HWB.out, hbd, Nat.lt_of_lt_of_le FK.out.2.2.2 hkp.below.size⟩; clear FK hbd hkp; have FK := FK5; clear FK5))
        all_goals
          have HRE : Hid (fr ++ ws.flatMap Wh.four ++ Wh.four lw = R) := by
            show _ = _
            rw [HBS.out, List.append_assoc]
          rw [HRE.out] at FK
          go_wp2_with fail
          refine (bstr_any b b R _ FK.out.2.2.1 (Nat.le_of_lt FK.out.2.2.2)).mono ?_
          rintro e w11 ⟨rfl, hkp⟩
          have HFE : Hid (Fresh w w11) := hkp.fresh FK.out.2.1 HWB.out
          clear hkp FK
          go_wp2
          go_ret
          exact ⟨rfl, HFE.out⟩
      · as_aux_lemma =>
        have o1 : bits .or .u32 ((pd : Int) * 1073741824) 536870912 = (pd : Int) * 1073741824 + 536870912 := by
          rw [Wh.or_add _ _ 30 (by omega) (by omega) (by omega) (by omega) (by omega) (by omega)]
        have o2 : bits .or .u32 ((pd : Int) * 1073741824 + 536870912) (kind * 16777216) = (pd : Int) * 1073741824 + 536870912 + kind * 16777216 := by
          rw [Wh.or_add _ _ 29 (by omega) (by omega) (by omega) (by omega) (by omega) (by omega)]
        have o3 : bits .or .u32 ((pd : Int) * 1073741824 + 536870912 + kind * 16777216) n = lw := by
          rw [Wh.or_add _ _ 24 (by omega) (by omega) (by omega) (by omega) (by omega) (by omega), HLA.out]
          simp
        have HBIT : Hid (∀ W, Calls Tryd.prog 28 #[.bool true] W fun e w' => e = .returned (.int .u32 1) ∧ W = w') := bit6_any true
        have c0 : wr.cell? ⟨g, 0, none⟩ = some (.int .i64 kind) := HB.out.cell 0
        have c2 : wr.cell? ⟨g, 2, none⟩ = some (.int .u32 n) := HB.out.cell 2
        have c6 : wr.cell? ⟨g, 6, none⟩ = some (.bool true) := HB.out.cell 6
        clear hn1 hn2 hk1 hk2 hpl
        go_region_held3 (fun wx => wx.cell? ⟨g, 0, none⟩ = some (.int .i64 kind) ∧ wx.cell? ⟨g, 2, none⟩ = some (.int .u32 n) ∧ wx.cell? ⟨g, 6, none⟩ = some (.bool true))
          (first
            | exact ⟨c0, c2, c6⟩
            | assumption
            | exact ⟨FK.out.1.cell 0, FK.out.1.cell 2, FK.out.1.cell 6⟩)
          (first
            | (go_simp; go_at_call 28; refine (HBIT.out _).mono ?_; rintro e w4 ⟨rfl, rfl⟩)
            | (go_simp; go_at_call 27; refine (four_pdu lw _ hlw0 hlw1).mono ?_; rintro e w9 ⟨rfl, f4⟩; have FK : Hid (Blk w9 g 32 [.int .i64 kind, .int .i64 sq, .int .u32 n, .int .u32 ps, .int .u32 mr, .slice A l.length c, .bool true, .string data] ∧ Fresh w w9 ∧ Bd b b (fr ++ ws.flatMap Wh.four) w9 ∧ b < w9.heap.size) := ⟨(f4.blk HB.out (fun h => h)), HF.out.drew.trans f4 (fun _ _ h => h), Bd.fresh HD.out ((Touch.refl _ _).drew.trans f4 (fun _ _ h => h)), Nat.lt_of_lt_of_le HL.out f4.size⟩; clear f4)
            | (go_simp; go_at_call 24; refine (wrs_any b b _ (Wh.four lw) _ FK.out.2.2.1 HCL.out (Nat.le_of_lt FK.out.2.2.2)).mono ?_; rintro e w10 ⟨rfl, hbd, hkp⟩; have FK5 : Hid (Blk w10 g 32 [.int .i64 kind, .int .i64 sq, .int .u32 n, .int .u32 ps, .int .u32 mr, .slice A l.length c, .bool true, .string data] ∧ Fresh w w10 ∧ Bd b b (fr ++ ws.flatMap Wh.four ++ Wh.four lw) w10 ∧ b < w10.heap.size) := ⟨hkp.blk FK.out.1 (Nat.ne_of_lt HGB.out) (by decide), hkp.fresh FK.out.2.1 HWB.out, hbd, Nat.lt_of_lt_of_le FK.out.2.2.2 hkp.below.size⟩; clear FK hbd hkp; have FK := FK5; clear FK5))
        all_goals
          have HRE : Hid (fr ++ ws.flatMap Wh.four ++ Wh.four lw = R) := by
            show _ = _
            rw [HBS.out, List.append_assoc]
          rw [HRE.out] at FK
          go_wp2_with fail
          refine (bstr_any b b R _ FK.out.2.2.1 (Nat.le_of_lt FK.out.2.2.2)).mono ?_
          rintro e w11 ⟨rfl, hkp⟩
          have HFE : Hid (Fresh w w11) := hkp.fresh FK.out.2.1 HWB.out
          clear hkp FK
          go_wp2
          go_ret
          exact ⟨rfl, HFE.out⟩
end Go.Proofs.YtpifgpmjnjbecaaDoor
