/-
  wire.Wire.Open, Sound; wire.Size of a poll.
-/
import Derived.Test.YtpifgpmjnjbecaaDoorWireP
namespace Go.Proofs.YtpifgpmjnjbecaaDoor
open Go.RowKit

set_option maxRecDepth 10000 in
set_option maxHeartbeats 4000000 in
theorem sound6_any (g : Nat) (u : Int) (d : List UInt8) (w : World) (ht : Wh.Tab w g) (hd : d.length ≤ 10000) :
    Calls Tryd.prog 15 #[.pointer (some ⟨g, 0, none⟩), .string (Wh.B (Wh.frameL u d))] w fun e w' => e = .returned (.bool true) ∧ Fresh w w' := by
  have HFI : Hid (∀ W, Fresh w W → Calls Tryd.prog 32 #[.pointer (some ⟨g, 0, none⟩), .string (Wh.B (Wh.frameL u d))] W fun e w' => e = .returned (.bool true) ∧ Fresh W w') := fun W h => fits_any g (Wh.innerL u d) W (ht.fresh h) (by rw [Wh.innerL_len]; unfold Wh.cells; omega)
  have hz : (Wh.B (Wh.frameL u d)).size = Wh.cells d.length * 48 := by rw [Wh.B_size, Wh.frameL_len]
  have hk : 1 ≤ Wh.cells d.length ∧ Wh.cells d.length ≤ 1000 := by unfold Wh.cells; omega
  clear ht
  generalize Wh.B (Wh.frameL u d) = s at *
  generalize Wh.cells d.length = k at *
  have hne : s.toList.isEmpty = false := by
    rw [Lib.toList_data]
    cases h : s.data.toList with
    | nil =>
      have : s.size = 0 := by rw [Lib.size_eq s, h]; rfl
      omega
    | cons x l => rfl
  have hr : ((s.size : Int) % 48 == 0) = true := by rw [hz]; simp
  go_enter Tryd.func15, Tryd.ntmps15
  go_wp2_with (go_at_call 32; (with_reducible refine (HFI.out _ (Touch.refl _ _)).mono ?_); rintro e w2 ⟨rfl, f2⟩)
  exact bodyPost_ret (v := .bool true) (by simp [results, Tryd.results15, go_sem]) rfl ⟨rfl, f2⟩

theorem wpList_val {P : Program} {ops : Array Oper} {rest : List Oper} {o : Oper} {a : Act} {w w' : World} {Q : Exit → Act → World → Prop} {v : Value} (hg : o.guard = none) (hr : (execOp a.eval o).run P w = .ok (.value v) w')
    (h : wpList P ops Q rest (a.put o.dst v) w') : wpList P ops Q (o :: rest) a w :=
  wpList_plain hg fun K hK => by
    unfold Oper.wp
    rw [hr]
    exact hK _ _ h

set_option maxRecDepth 10000 in
set_option maxHeartbeats 4000000 in
theorem open6_no (g : Nat) (u : Int) (d : List UInt8) (w : World) (ht : Wh.Tab w g) (u0 : 1 ≤ u) (u1 : u ≤ 255) (hd : d.length ≤ 10000) :
    Calls Tryd.prog 14 #[.pointer (some ⟨g, 0, none⟩), .string (Wh.B (Wh.frameL u d))] w fun e w' => ∃ v, e = .returned (.tuple #[v, .int .i64 3]) ∧ v = .agg #[.int .i64 0, .int .i64 0, .int .u32 0, .int .u32 0, .int .u32 0, .slice none 0 0, .bool false, .string ⟨#[]⟩] ∧ Fresh w w' := by
  have HFP : Hid (∀ W, Fresh w W → Calls Tryd.prog 12 #[.pointer (some ⟨g, 0, none⟩), .string (Wh.B (Wh.frameL u d))] W fun e w' => e = .returned (.tuple #[.agg #[.int .u8 u, .string (Wh.B d)], .int .i64 0]) ∧ Fresh W w') := fun W h => fparse_any g u d W (ht.fresh h) (by omega) u1 hd
  clear ht
  generalize Wh.B (Wh.frameL u d) = s at *
  generalize Wh.B d = D at *
  have h1 : (u == 0) = false := by simp; omega
  have h2 : decide (u = 0) = false := by simp; omega
  go_enter Tryd.func14, Tryd.ntmps14
  have HB : Hid (Blk (w.alloc (.cells #[.int .i64 0, .int .i64 0, .int .u32 0, .int .u32 0, .int .u32 0, .slice none 0 0, .bool false, .string ⟨#[]⟩] 32)) w.heap.size 32 zC) := Blk.new _ _ _
  go_upto_region 5 with (go_at_call 12; (with_reducible refine (HFP.out _ ((Touch.refl _ _).alloc _)).mono ?_); rintro e w2 ⟨rfl, f2⟩)
  have HBR : Hid (Blk (w2.alloc (.cells #[.int .u8 u, .string D] 44)) w.heap.size 32 zC) := (f2.blk HB.out (fun e => e)).alloc _
  have HF : Hid (Fresh w (w2.alloc (.cells #[.int .u8 u, .string D] 44))) := (((Touch.refl _ _).alloc _).trans f2 (fun _ _ e => e)).alloc _
  clear HFP f2 HB
  generalize (w2.alloc (.cells #[.int .u8 u, .string D] 44)) = w3 at *
  have HI : Hid ((Tryd.prog.info? 32).map (·.size) = some (#[.int .i64 0, .int .i64 0, .int .u32 0, .int .u32 0, .int .u32 0, .slice none 0 0, .bool false, .string ⟨#[]⟩] : Array Value).size) := by
    show _ = _
    kernel_rfl
  have HO1 : Hid ((#[.int .i64 0, .int .i64 0, .int .u32 0, .int .u32 0, .int .u32 0, .slice none 0 0, .bool false, .string ⟨#[]⟩] : Array Value).all (·.oneCell') = true) := by
    show _ = _
    simp [Value.oneCell']
  have HB11 : Hid (Blk (w3.setRow (w.heap.size) #[.int .i64 0, .int .i64 0, .int .u32 0, .int .u32 0, .int .u32 0, .slice none 0 0, .bool false, .string ⟨#[]⟩]) w.heap.size 32 zC) := setRow_heap w3 (w.heap.size) _ _ _ _ HBR.out
  have HFE : Hid (Fresh w (w3.setRow (w.heap.size) #[.int .i64 0, .int .i64 0, .int .u32 0, .int .u32 0, .int .u32 0, .slice none 0 0, .bool false, .string ⟨#[]⟩])) := HF.out.trans (⟨rfl, rfl, rfl, by simp, fun k _ hk => setRow_other w3 (w.heap.size) k _ hk⟩ : Touch (· = w.heap.size) w3 (w3.setRow (w.heap.size) #[.int .i64 0, .int .i64 0, .int .u32 0, .int .u32 0, .int .u32 0, .slice none 0 0, .bool false, .string ⟨#[]⟩])) (fun k hk e => by have e : k = w.heap.size := e; omega)
  refine wp_region_lit ?_
  refine wpList_val (w' := w3) (v := .agg #[.int .i64 0, .int .i64 0, .int .u32 0, .int .u32 0, .int .u32 0, .slice none 0 0, .bool false, .string ⟨#[]⟩]) rfl (by kernel_rfl) ?_
  refine wpList_store_row rfl 32 (.tmp 4) (.tmp 25) rfl w.heap.size #[.int .i64 0, .int .i64 0, .int .u32 0, .int .u32 0, .int .u32 0, .slice none 0 0, .bool false, .string ⟨#[]⟩] (by rfl) (by rfl) 32 zC.toArray HBR.out HI.out (by rfl) HO1.out ?_
  generalize (w3.setRow (w.heap.size) #[.int .i64 0, .int .i64 0, .int .u32 0, .int .u32 0, .int .u32 0, .slice none 0 0, .bool false, .string ⟨#[]⟩]) = w11 at *
  have r0 : w11.cell? ⟨w.heap.size, 0, none⟩ = some (.int .i64 0) := HB11.out.cell 0
  have r1 : w11.cell? ⟨w.heap.size, 1, none⟩ = some (.int .i64 0) := HB11.out.cell 1
  have r2 : w11.cell? ⟨w.heap.size, 2, none⟩ = some (.int .u32 0) := HB11.out.cell 2
  have r3 : w11.cell? ⟨w.heap.size, 3, none⟩ = some (.int .u32 0) := HB11.out.cell 3
  have r4 : w11.cell? ⟨w.heap.size, 4, none⟩ = some (.int .u32 0) := HB11.out.cell 4
  have r5 : w11.cell? ⟨w.heap.size, 5, none⟩ = some (.slice none 0 0) := HB11.out.cell 5
  have r6 : w11.cell? ⟨w.heap.size, 6, none⟩ = some (.bool false) := HB11.out.cell 6
  have r7 : w11.cell? ⟨w.heap.size, 7, none⟩ = some (.string ⟨#[]⟩) := HB11.out.cell 7
  go_wp2_with fail
  refine bodyPost_ret (v := .tuple #[.agg #[.int .i64 0, .int .i64 0, .int .u32 0, .int .u32 0, .int .u32 0, .slice none 0 0, .bool false, .string ⟨#[]⟩], .int .i64 3]) (by simp [results, Tryd.results14, go_sem, r0, r1, r2, r3, r4, r5, r6, r7]) rfl ⟨_, rfl, rfl, HFE.out⟩
end Go.Proofs.YtpifgpmjnjbecaaDoor
