/-
  crc: a word's bytes, the table, sums of texts, seals.
-/
import Derived.Test.YtpifgpmjnjbecaaDoorWhP
import Derived.Test.YtpifgpmjnjbecaaDoorMem
import Derived.Test.YtpifgpmjnjbecaaDoorRows
import Derived.Laws.IdiomStrings
import Derived.Laws.Rows
import Derived.LoopTactic
import Derived.RegionTactic
import Derived.ChangeAlike
import Derived.StillTailTactics
import Derived.Deep.QuietTactic
import Derived.BigQuiet
namespace Go.Proofs.YtpifgpmjnjbecaaDoor
open Go.RowKit

theorem four_conv (x : Int) (w : World) (h0 : 0 ≤ x) (h1 : x ≤ 4294967295) :
    (convert 66 9 (.slice (some ⟨w.heap.size, 0, none⟩) 4 4)).run Tryd.prog (w.alloc (.cells #[.int .u8 (x / 16777216), .int .u8 (x / 65536 % 256), .int .u8 (x / 256 % 256), .int .u8 (x % 256)] 5)) =
      .ok (.string (Wh.B (Wh.four x))) (w.alloc (.cells #[.int .u8 (x / 16777216), .int .u8 (x / 65536 % 256), .int .u8 (x / 256 % 256), .int .u8 (x % 256)] 5)) := by
  have hb := Blk.new w 5 [.int .u8 (x / 16777216), .int .u8 (x / 65536 % 256), .int .u8 (x / 256 % 256), .int .u8 (x % 256)]
  refine run_convert_bytes_back (P := Tryd.prog) _ 66 9 5 ⟨w.heap.size, 0, none⟩ 4 (Wh.four x) Tryd.underlying66 Tryd.underlying5 Tryd.underlying9 (fun j hj => ?_)
  rw [Addr.add_lit, Nat.zero_add]
  have h4 : x / 16777216 % 256 = x / 16777216 := by omega
  have e := hb.cell j
  have hj4 : j < 4 := hj
  rcases (show j = 0 ∨ j = 1 ∨ j = 2 ∨ j = 3 by omega) with rfl | rfl | rfl | rfl
  · rw [show (Wh.four x)[0] = Wh.byt (x / 16777216) from rfl, Wh.byt_nat, h4]; exact e
  · rw [show (Wh.four x)[1] = Wh.byt (x / 65536) from rfl, Wh.byt_nat]; exact e
  · rw [show (Wh.four x)[2] = Wh.byt (x / 256) from rfl, Wh.byt_nat]; exact e
  · rw [show (Wh.four x)[3] = Wh.byt x from rfl, Wh.byt_nat]; exact e
theorem four_crc (x : Int) (w : World) (h0 : 0 ≤ x) (h1 : x ≤ 4294967295) : Calls Tryd.prog 45 #[.int .u32 x] w fun e w' => e = .returned (.string (Wh.B (Wh.four x))) ∧ Fresh w w' := by
  have hcv := four_conv x w h0 h1
  generalize Wh.B (Wh.four x) = s at *
  go_enter Tryd.func45, Tryd.ntmps45
  go_wp2
  go_ret
  exact ⟨rfl, (Touch.refl _ _).alloc _⟩
theorem four_pdu (x : Int) (w : World) (h0 : 0 ≤ x) (h1 : x ≤ 4294967295) : Calls Tryd.prog 27 #[.int .u32 x] w fun e w' => e = .returned (.string (Wh.B (Wh.four x))) ∧ Fresh w w' := by
  have hcv := four_conv x w h0 h1
  generalize Wh.B (Wh.four x) = s at *
  go_enter Tryd.func27, Tryd.ntmps27
  go_wp2
  go_ret
  exact ⟨rfl, (Touch.refl _ _).alloc _⟩

namespace Wh
/-- One bit of the table's making. -/
def bitStep (x : Int) : Int := bits .xor .u32 (x * 2 % 4294967296) (79764919 * (x / 2147483648))
def bitsN (x : Int) : Nat → Int
  | 0 => x
  | n + 1 => bitStep (bitsN x n)
def row (i : Nat) : Int := bitsN ((i : Int) * 16777216) 8
def TAB : List Value := (List.range 256).map fun i => .int .u32 (row i)
theorem bitsN_in (x : Int) (h : 0 ≤ x ∧ x ≤ 4294967295) (n : Nat) : 0 ≤ bitsN x n ∧ bitsN x n ≤ 4294967295 := by
  cases n with
  | zero => exact h
  | succ n => exact xor32_in _ _
theorem row_in (i : Nat) : 0 ≤ row i ∧ row i ≤ 4294967295 := xor32_in _ _
theorem TAB_len : TAB.length = 256 := by simp [TAB]
theorem TAB_at (i : Nat) (h : i < 256) : TAB[i]? = some (.int .u32 (row i)) := by simp [TAB, h]
/-- The first n of the table. -/
def tabTo (n : Nat) : List Value := (List.range 256).map fun i => .int .u32 (if i < n then row i else 0)
theorem tabTo_256 : tabTo 256 = TAB := by
  unfold tabTo TAB
  apply List.map_congr_left
  intro i hi
  rw [if_pos (List.mem_range.1 hi)]
theorem tabTo_len (n : Nat) : (tabTo n).length = 256 := by simp [tabTo]
theorem tabTo_set (n : Nat) (h : n < 256) : (tabTo n).set n (.int .u32 (row n)) = tabTo (n + 1) := by
  apply List.ext_getElem?
  intro i
  rw [List.getElem?_set]
  by_cases hi : n = i
  · subst hi
    simp [tabTo, h]
  · rw [if_neg hi]
    by_cases h2 : i < 256
    · simp only [tabTo, List.getElem?_map, List.getElem?_range h2, Option.map_some]
      by_cases h3 : i < n
      · rw [if_pos h3, if_pos (by omega)]
      · rw [if_neg h3, if_neg (by omega)]
    · rw [List.getElem?_eq_none (by rw [tabTo_len]; omega), List.getElem?_eq_none (by rw [tabTo_len]; omega)]
end Wh

theorem infoTab : (Tryd.prog.info? 27).map (·.size) = some Wh.TAB.toArray.size := by
  have h : (Tryd.prog.info? 27).map (·.size) = some 256 := by kernel_rfl
  rw [h, List.size_toArray, Wh.TAB_len]
theorem oneTab : ∀ v ∈ Wh.TAB, v.oneCell' = true := by
  intro v hv
  obtain ⟨i, _, rfl⟩ := List.mem_map.1 hv
  rfl
set_option maxRecDepth 10000 in
set_option maxHeartbeats 1000000 in
theorem make_any (w : World) : Calls Tryd.prog 5 #[] w fun e w' => e = .returned (.agg Wh.TAB.toArray) ∧ Fresh w w' := by
  have HZ : Hid (Tryd.zeroCells27 = (Wh.tabTo 0).toArray) := by
    show Tryd.zeroCells27 = (Wh.tabTo 0).toArray
    kernel_rfl
  have HB0 : Hid (Blk ((w.alloc (.cells Tryd.zeroCells27 27)).alloc (.cells Tryd.zeroCells27 27)) w.heap.size 27 (Wh.tabTo 0)) := by
    rw [HZ.out]
    exact (Blk.new w _ _).alloc _
  have HB1 : Hid (Blk ((w.alloc (.cells Tryd.zeroCells27 27)).alloc (.cells Tryd.zeroCells27 27)) (w.heap.size + 1) 27 (Wh.tabTo 0)) := by
    rw [HZ.out]
    have := Blk.new (w.alloc (.cells (Wh.tabTo 0).toArray 27)) 27 (Wh.tabTo 0)
    rw [show (w.alloc (.cells (Wh.tabTo 0).toArray 27)).heap.size = w.heap.size + 1 by simp] at this
    exact this
  have HF : Hid (Fresh w ((w.alloc (.cells Tryd.zeroCells27 27)).alloc (.cells Tryd.zeroCells27 27))) := ((Touch.refl _ w).alloc _).alloc _
  go_enter Tryd.func5, Tryd.ntmps5
  go_wp2
  generalize ((w.alloc (.cells Tryd.zeroCells27 27)).alloc (.cells Tryd.zeroCells27 27)) = wa at *
  have hge : ∃ g, g = w.heap.size := ⟨_, rfl⟩
  obtain ⟨g, hg⟩ := hge
  rw [← hg] at HB0 HB1 ⊢
  have HG := Lib.hid hg
  clear hg HZ
  go_loopw [5] (fun i wr => ∃ k : Nat, k ≤ 256 ∧ i = .int .i64 k ∧ Hid (Blk wr g 27 (Wh.tabTo 0)) ∧ Hid (Blk wr (g + 1) 27 (Wh.tabTo k)) ∧ Hid (Fresh w wr)) (fun i _ => 256 - (intOf i).toNat)
  case atStart => exact ⟨0, by omega, rfl, HB0, HB1, HF⟩
  case round =>
    obtain ⟨k, hk, rfl, hb0, hb1, hf⟩ := hrel
    by_cases hlt : k < 256
    · obtain ⟨wo, hwo⟩ : ∃ wo : World, wo = wr := ⟨_, rfl⟩
      subst hwo
      go_wp2
      go_loop [3, 11] (fun x j => ∃ n : Nat, n ≤ 8 ∧ j = .int .i64 n ∧ x = .int .u32 (Wh.bitsN ((k : Int) * 16777216) n)) (fun _ j => 8 - (intOf j).toNat)
      case atStart => exact ⟨0, by omega, rfl, rfl⟩
      case round =>
        obtain ⟨n, hn, rfl, rfl⟩ := hrel
        have hin := Wh.bitsN_in ((k : Int) * 16777216) (by omega) n
        have HS : Hid (Wh.bitsN ((k : Int) * 16777216) (n + 1) = Wh.bitStep (Wh.bitsN ((k : Int) * 16777216) n)) := rfl
        obtain ⟨x, hx⟩ : ∃ x, x = Wh.bitsN ((k : Int) * 16777216) n := ⟨_, rfl⟩
        rw [← hx] at hin HS ⊢
        have HX := Lib.hid hx
        clear hx
        obtain ⟨hi0, hi1⟩ := hin
        by_cases hn8 : n < 8
        · go_wp2
          go_round
          case rel => exact ⟨n + 1, by omega, by go_num, by rw [HS.out]; rfl⟩
          case measure => simp [intOf]; omega
        · obtain rfl : n = 8 := by omega
          have hc := hb1.out.cell k
          rw [List.getElem?_eq_getElem (by rw [Wh.tabTo_len]; exact hlt)] at hc
          have hfz := hb1.out.frozen k
          have HN : Hid (Blk (wo.setCell ⟨g + 1, k, none⟩ (.int .u32 x)) (g + 1) 27 (Wh.tabTo (k + 1))) := by
            have := hb1.out.set k (.int .u32 x)
            rw [HX.out, show Wh.bitsN ((k : Int) * 16777216) 8 = Wh.row k from rfl, Wh.tabTo_set k hlt] at this
            rw [HX.out]
            exact this
          have H0 : Hid (Blk (wo.setCell ⟨g + 1, k, none⟩ (.int .u32 x)) g 27 (Wh.tabTo 0)) := hb0.out.far (by show g ≠ g + 1; omega) _
          have HT : Hid (Fresh w (wo.setCell ⟨g + 1, k, none⟩ (.int .u32 x))) := hf.out.setCell (fun h => by have := HG.out; simp at h; omega) _
          clear hb0 hb1 hf
          go_wp2
          go_roundw
          case rel => exact ⟨k + 1, by omega, by go_num, H0, HN, HT⟩
          case measure => simp [intOf]; omega
    · obtain rfl : k = 256 := by omega
      rw [Wh.tabTo_256] at hb1
      have HI := Lib.hid infoTab
      have ho := oneTab
      have hlen := Wh.TAB_len
      obtain ⟨T, hT⟩ : ∃ T, T = Wh.TAB := ⟨_, rfl⟩
      rw [← hT] at hb1 HI ho hlen
      have HE := Lib.hid hT
      clear hT
      have hst : (storeCells ⟨g, 0, none⟩ T).run Tryd.prog wr = .ok () (wr.setRow g T.toArray) := by
        have := run_storeCells_from (P := Tryd.prog) g 27 T 0 (Wh.tabTo 0).toArray wr hb0.out (by rw [List.size_toArray, Wh.tabTo_len, hlen]) ho
        rw [List.take_zero, List.nil_append] at this
        exact this
      have HS : Hid ((wr.setRow g T.toArray).heap[g]? = some (.cells T.toArray 27 (0, 0))) := setRow_heap wr g _ _ _ _ hb0.out
      have HT : Hid (Fresh w (wr.setRow g T.toArray)) := ⟨hf.out.os, hf.out.tape, hf.out.output, by simpa using hf.out.size, fun k hk hs => (setRow_other wr g k _ (fun e => by have := HG.out; omega)).trans (hf.out.block k hk hs)⟩
      have HU := Lib.hid Tryd.underlying27
      have HB := Lib.hid hb1.out
      clear hb0 hb1 hf HB0 HB1 HF ho
      go_wp2_with fail
      refine wp_load_row _ _ rfl (g + 1) rfl 27 T.toArray (0, 0) _ HB.out HU.out rfl HI.out ?_
      go_wp2_with fail
      exact bodyPost_ret (v := .agg T.toArray) (results_cell_row (p := 0) rfl _ _ g 27 _ (0, 0) _ rfl HS.out HU.out rfl HI.out) rfl ⟨by rw [HE.out], HT.out⟩
end Go.Proofs.YtpifgpmjnjbecaaDoor
