/-
  pdu.Check: conn's units may be.
-/
import Derived.Test.YtipaobpmojahaaaGreatRPdu
import Derived.Test.YtipaobpmojahaaaGreatEvD
import Derived.LoopTactic
import Derived.RegionTactic
import Derived.ChangeAlike
import Derived.Deep.DeepCutAuto
import Derived.Deep.CutBlock
namespace Go.Proofs.YtipaobpmojahaaaGreat
open Go.RowKit

theorem low14_any (x : Int) (w : World) (h : x % 16777216 = x) : Calls Tryz.prog 137 #[.int .u32 x] w fun e w' => e = .returned (.bool true) ∧ w' = w := by
  have HL := Lib.hid (low_any x)
  have H := Lib.hid h
  clear h
  go_enter Tryz.func137, Tryz.ntmps137
  go_wp2_with fail
  refine (HL.out _).mono ?_
  rintro e w2 ⟨rfl, rfl⟩
  rw [H.out]
  simp only
  go_wp2
  go_ret
  exact ⟨rfl, rfl⟩

theorem index_nil (f : Value) (w : World) : Calls Tryz.prog 205 #[.slice none 0 0, f] w fun e w' => e = .returned (.int .i64 (-1)) ∧ Fresh w w' := by
  go_enter Tryz.func205, Tryz.ntmps205
  go_wp2_with fail
  refine wp_loop_rounds 1 ?_
  rw [rounds_succ]
  go_wp2
  go_ret
  exact ⟨rfl, Touch.refl _ _⟩
theorem contains_nil (f : Value) (w : World) : Calls Tryz.prog 138 #[.slice none 0 0, f] w fun e w' => e = .returned (.bool false) ∧ Fresh w w' := by
  go_enter Tryz.func138, Tryz.ntmps138
  go_wp2_with fail
  refine (index_nil f _).mono ?_
  rintro e w2 ⟨rfl, f2⟩
  have F2 := Lib.hid f2
  clear f2
  go_wp2
  go_ret
  exact ⟨rfl, F2.out⟩

theorem shape_2 (w : World) : Calls Tryz.prog 136 #[.int .i64 2] w fun e w' => e = .returned (.agg #[.int .i64 0, .bool true, .bool true, .int .i64 0, .bool false, .bool false, .bool false, .bool true]) ∧ Fresh w w' := by
  go_enter Tryz.func136, Tryz.ntmps136
  go_wp2
  exact bodyPost_ret (v := _) (by simp [results, Tryz.results136, go_sem]) rfl ⟨rfl, (Touch.refl _ _).alloc _⟩

set_option maxHeartbeats 1000000 in
set_option maxRecDepth 100000 in
theorem check_2 (sq n : Int) (hq0 : 0 ≤ sq) (hq1 : sq ≤ 255) (hn : n % 16777216 = n) (w : World) : Calls Tryz.prog 61 #[pduV ⟨2, sq, n, 0, 0, none, 0, 0, false, ByteArray.empty⟩] w fun e w' => e = .returned (.int .i64 0) ∧ Fresh w w' := by
  unfold pduV
  have HL0 := Lib.hid (low14_any 0 · rfl)
  have HLN := Lib.hid (low14_any n · hn)
  clear hn
  have HF : Hid (Fresh w (w.alloc (.cells #[.int .i64 2, .int .i64 sq, .int .u32 n, .int .u32 0, .int .u32 0, .slice none 0 0, .bool false, .string ByteArray.empty] 58))) := (Touch.refl _ w).alloc _
  have HB : Hid (Blk (w.alloc (.cells #[.int .i64 2, .int .i64 sq, .int .u32 n, .int .u32 0, .int .u32 0, .slice none 0 0, .bool false, .string ByteArray.empty] 58)) w.heap.size 58 [.int .i64 2, .int .i64 sq, .int .u32 n, .int .u32 0, .int .u32 0, .slice none 0 0, .bool false, .string ByteArray.empty]) := Blk.new _ _ _
  go_enter Tryz.func61, Tryz.ntmps61
  go_upto_region 1 with (fail)
  generalize (w.alloc (.cells #[.int .i64 2, .int .i64 sq, .int .u32 n, .int .u32 0, .int .u32 0, .slice none 0 0, .bool false, .string ByteArray.empty] 58)) = w1 at *
  generalize w.heap.size = g at *
  have d0 : w1.cell? ⟨g, 0, none⟩ = some (.int .i64 2) := HB.out.cell 0
  have d1 : w1.cell? ⟨g, 1, none⟩ = some (.int .i64 sq) := HB.out.cell 1
  have d2 : w1.cell? ⟨g, 2, none⟩ = some (.int .u32 n) := HB.out.cell 2
  have d3 : w1.cell? ⟨g, 3, none⟩ = some (.int .u32 0) := HB.out.cell 3
  have d4 : w1.cell? ⟨g, 4, none⟩ = some (.int .u32 0) := HB.out.cell 4
  have d5 : w1.cell? ⟨g, 5, none⟩ = some (.slice none 0 0) := HB.out.cell 5
  have d6 : w1.cell? ⟨g, 6, none⟩ = some (.bool false) := HB.out.cell 6
  have d7 : w1.cell? ⟨g, 7, none⟩ = some (.string { data := #[] }) := HB.out.cell 7
  go_wp2_with fail
  refine (shape_2 w1).mono ?_
  rintro e w2 ⟨rfl, f2⟩
  have HF2 : Hid (Fresh w (w2.alloc (.cells #[.int .i64 0, .bool true, .bool true, .int .i64 0, .bool false, .bool false, .bool false, .bool true] 234))) := (HF.out.trans f2 (fun _ _ e => e)).alloc _
  have HB2 : Hid (Blk (w2.alloc (.cells #[.int .i64 0, .bool true, .bool true, .int .i64 0, .bool false, .bool false, .bool false, .bool true] 234)) g 58 [.int .i64 2, .int .i64 sq, .int .u32 n, .int .u32 0, .int .u32 0, .slice none 0 0, .bool false, .string ByteArray.empty]) := (f2.blk HB.out (fun e => e)).alloc _
  have HS2 : Hid (Blk (w2.alloc (.cells #[.int .i64 0, .bool true, .bool true, .int .i64 0, .bool false, .bool false, .bool false, .bool true] 234)) w2.heap.size 234 [.int .i64 0, .bool true, .bool true, .int .i64 0, .bool false, .bool false, .bool false, .bool true]) := Blk.new _ _ _
  clear f2 HF HB d0 d1 d2 d3 d4 d5 d6 d7
  go_upto_region 2 with (fail)
  generalize (w2.alloc (.cells #[.int .i64 0, .bool true, .bool true, .int .i64 0, .bool false, .bool false, .bool false, .bool true] 234)) = w3 at *
  generalize w2.heap.size = g2 at *
  have d0 : w3.cell? ⟨g, 0, none⟩ = some (.int .i64 2) := HB2.out.cell 0
  have d1 : w3.cell? ⟨g, 1, none⟩ = some (.int .i64 sq) := HB2.out.cell 1
  have d2 : w3.cell? ⟨g, 2, none⟩ = some (.int .u32 n) := HB2.out.cell 2
  have d3 : w3.cell? ⟨g, 3, none⟩ = some (.int .u32 0) := HB2.out.cell 3
  have d4 : w3.cell? ⟨g, 4, none⟩ = some (.int .u32 0) := HB2.out.cell 4
  have d5 : w3.cell? ⟨g, 5, none⟩ = some (.slice none 0 0) := HB2.out.cell 5
  have d6 : w3.cell? ⟨g, 6, none⟩ = some (.bool false) := HB2.out.cell 6
  have d7 : w3.cell? ⟨g, 7, none⟩ = some (.string { data := #[] }) := HB2.out.cell 7
  have s0 : w3.cell? ⟨g2, 0, none⟩ = some (.int .i64 0) := HS2.out.cell 0
  have s1 : w3.cell? ⟨g2, 1, none⟩ = some (.bool true) := HS2.out.cell 1
  have s2 : w3.cell? ⟨g2, 2, none⟩ = some (.bool true) := HS2.out.cell 2
  have s3 : w3.cell? ⟨g2, 3, none⟩ = some (.int .i64 0) := HS2.out.cell 3
  have s4 : w3.cell? ⟨g2, 4, none⟩ = some (.bool false) := HS2.out.cell 4
  have s5 : w3.cell? ⟨g2, 5, none⟩ = some (.bool false) := HS2.out.cell 5
  have s6 : w3.cell? ⟨g2, 6, none⟩ = some (.bool false) := HS2.out.cell 6
  have s7 : w3.cell? ⟨g2, 7, none⟩ = some (.bool true) := HS2.out.cell 7
  have b1 : decide (sq < 0) = false := decide_eq_false (by omega)
  have b2 : decide (255 < sq) = false := decide_eq_false (by omega)
  go_wp2_with fail
  refine (HLN.out _).mono ?_
  rintro e w4 ⟨rfl, rfl⟩
  go_wp2_with fail
  refine (HL0.out _).mono ?_
  rintro e w5 ⟨rfl, rfl⟩
  go_wp2_with fail
  refine (HL0.out _).mono ?_
  rintro e w6 ⟨rfl, rfl⟩
  go_wp2_with fail
  refine (contains_nil _ _).mono ?_
  rintro e w7 ⟨rfl, f7⟩
  have HF7 : Hid (Fresh w w7) := HF2.out.trans f7 (fun _ _ e => e)
  have HB7 := Lib.hid (f7.blk HB2.out (fun e => e))
  have HS7 := Lib.hid (f7.blk HS2.out (fun e => e))
  clear f7 d0 d1 d2 d3 d4 d5 d6 d7 s0 s1 s2 s3 s4 s5 s6 s7
  have d0 : w7.cell? ⟨g, 0, none⟩ = some (.int .i64 2) := HB7.out.cell 0
  have d1 : w7.cell? ⟨g, 1, none⟩ = some (.int .i64 sq) := HB7.out.cell 1
  have d2 : w7.cell? ⟨g, 2, none⟩ = some (.int .u32 n) := HB7.out.cell 2
  have d3 : w7.cell? ⟨g, 3, none⟩ = some (.int .u32 0) := HB7.out.cell 3
  have d4 : w7.cell? ⟨g, 4, none⟩ = some (.int .u32 0) := HB7.out.cell 4
  have d5 : w7.cell? ⟨g, 5, none⟩ = some (.slice none 0 0) := HB7.out.cell 5
  have d6 : w7.cell? ⟨g, 6, none⟩ = some (.bool false) := HB7.out.cell 6
  have d7 : w7.cell? ⟨g, 7, none⟩ = some (.string { data := #[] }) := HB7.out.cell 7
  have s0 : w7.cell? ⟨g2, 0, none⟩ = some (.int .i64 0) := HS7.out.cell 0
  have s1 : w7.cell? ⟨g2, 1, none⟩ = some (.bool true) := HS7.out.cell 1
  have s2 : w7.cell? ⟨g2, 2, none⟩ = some (.bool true) := HS7.out.cell 2
  have s3 : w7.cell? ⟨g2, 3, none⟩ = some (.int .i64 0) := HS7.out.cell 3
  have s4 : w7.cell? ⟨g2, 4, none⟩ = some (.bool false) := HS7.out.cell 4
  have s5 : w7.cell? ⟨g2, 5, none⟩ = some (.bool false) := HS7.out.cell 5
  have s6 : w7.cell? ⟨g2, 6, none⟩ = some (.bool false) := HS7.out.cell 6
  have s7 : w7.cell? ⟨g2, 7, none⟩ = some (.bool true) := HS7.out.cell 7
  go_wp2
  go_ret
  exact ⟨rfl, HF7.out⟩

end Go.Proofs.YtipaobpmojahaaaGreat
