/-
  wire.Size of a poll.
-/
import Derived.Test.YtpifgpmjnjbecaaDoorWireO
namespace Go.Proofs.YtpifgpmjnjbecaaDoor
open Go.RowKit

namespace Wh
def poll : P := ⟨10, 0, 0, 0, 0, [], false, ⟨#[]⟩⟩
theorem poll_ck : ck poll = 0 := by decide +kernel
theorem poll_len : (B (bytesS (shape poll.kind) poll)).size = 8 := by rw [B_size, bytesS_len]; decide +kernel
end Wh
set_option maxRecDepth 10000 in
set_option maxHeartbeats 4000000 in
theorem size6_any (w : World) : Calls Tryd.prog 16 #[.agg #[.int .i64 10, .int .i64 0, .int .u32 0, .int .u32 0, .int .u32 0, .slice none 0 0, .bool false, .string ⟨#[]⟩]] w fun e w' => e = .returned (.int .i64 48) ∧ Fresh w w' := by
  have HR : Hid (∀ W, Rd numE W none 0 Wh.poll.l) := fun W => (Sl.nil _ _).rd
  have HCK : Hid (∀ W, Calls Tryd.prog 9 #[.agg #[.int .i64 10, .int .i64 0, .int .u32 0, .int .u32 0, .int .u32 0, .slice none 0 0, .bool false, .string ⟨#[]⟩]] W fun e w' => e = .returned (.int .i64 0) ∧ Fresh W w') := fun W => by
    have := check6_any Wh.poll none 0 W (HR.out W) (by decide)
    rw [Wh.poll_ck] at this
    exact this
  have HBY : Hid (∀ W, Calls Tryd.prog 10 #[.agg #[.int .i64 10, .int .i64 0, .int .u32 0, .int .u32 0, .int .u32 0, .slice none 0 0, .bool false, .string ⟨#[]⟩]] W fun e w' => e = .returned (.string (Wh.B (Wh.bytesS (Wh.shape Wh.poll.kind) Wh.poll))) ∧ Fresh W w') := fun W => bytes6_any Wh.poll none 0 W (HR.out W) Wh.poll_ck
  have hz := Wh.poll_len
  clear HR
  generalize Wh.B (Wh.bytesS (Wh.shape Wh.poll.kind) Wh.poll) = D at *
  have HCE : Hid (∀ W, Calls Tryd.prog 30 #[.int .i64 8] W fun e w' => e = .returned (.int .i64 1) ∧ W = w') := fun W => cells_any 8 W (by decide)
  have HB : Hid (Blk (w.alloc (.cells #[.int .i64 10, .int .i64 0, .int .u32 0, .int .u32 0, .int .u32 0, .slice none 0 0, .bool false, .string ⟨#[]⟩] 32)) w.heap.size 32 [.int .i64 10, .int .i64 0, .int .u32 0, .int .u32 0, .int .u32 0, .slice none 0 0, .bool false, .string ⟨#[]⟩]) := Blk.new _ _ _
  go_enter Tryd.func16, Tryd.ntmps16
  go_upto_region 3 with (go_at_call 9; (with_reducible refine (HCK.out _).mono ?_); rintro e w2 ⟨rfl, f2⟩)
  have HB2 := Lib.hid (f2.blk HB.out (fun e => e))
  have HF : Hid (Fresh w w2) := ((Touch.refl _ _).alloc _).trans f2 (fun _ _ e => e)
  have d0 : w2.cell? ⟨w.heap.size, 0, none⟩ = some (.int .i64 10) := HB2.out.cell 0
  have d1 : w2.cell? ⟨w.heap.size, 1, none⟩ = some (.int .i64 0) := HB2.out.cell 1
  have d2 : w2.cell? ⟨w.heap.size, 2, none⟩ = some (.int .u32 0) := HB2.out.cell 2
  have d3 : w2.cell? ⟨w.heap.size, 3, none⟩ = some (.int .u32 0) := HB2.out.cell 3
  have d4 : w2.cell? ⟨w.heap.size, 4, none⟩ = some (.int .u32 0) := HB2.out.cell 4
  have d5 : w2.cell? ⟨w.heap.size, 5, none⟩ = some (.slice none 0 0) := HB2.out.cell 5
  have d6 : w2.cell? ⟨w.heap.size, 6, none⟩ = some (.bool false) := HB2.out.cell 6
  have d7 : w2.cell? ⟨w.heap.size, 7, none⟩ = some (.string ⟨#[]⟩) := HB2.out.cell 7
  have hz2 : ((D.size : Nat) : Int) = 8 := by rw [hz]; rfl
  clear f2 HB
  go_wp2_with (first
    | (go_at_call 10; (with_reducible refine (HBY.out _).mono ?_); rintro e w3 ⟨rfl, f3⟩)
    | (go_at_call 30; refine (HCE.out _).mono ?_; rintro e w4 ⟨rfl, rfl⟩))
  exact bodyPost_ret (v := .int .i64 48) (by simp [results, Tryd.results16, go_sem]) rfl ⟨rfl, HF.out.trans f3 (fun _ _ e => e)⟩
end Go.Proofs.YtpifgpmjnjbecaaDoor
