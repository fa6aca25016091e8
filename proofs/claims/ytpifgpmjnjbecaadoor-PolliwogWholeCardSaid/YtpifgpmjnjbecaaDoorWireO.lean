/-
  wire.Wire.Open of a good frame; wire.Size of a poll.
-/
import Derived.Test.YtpifgpmjnjbecaaDoorWireS
namespace Go.Proofs.YtpifgpmjnjbecaaDoor
open Go.RowKit

theorem wpList_enter {P : Program} {ops : Array Oper} {rest : List Oper} {o : Oper} {a : Act} {w : World} {Q : Exit → Act → World → Prop} {F : FuncId} {args : Array Value} {R : Ending → World → Prop} (hg : o.guard = none) (hr : (execOp a.eval o).run P w = .ok (.enter F args) w)
    (hc : Calls P F args w R) (h : ∀ e w', R e w' → ∃ v, e = .returned v ∧ wpList P ops Q rest (a.put o.dst v) w') : wpList P ops Q (o :: rest) a w :=
  wpList_plain hg fun K hK => by
    unfold Oper.wp
    rw [hr, Oper.upon_enter]
    refine hc.mono ?_
    intro e w' hR
    obtain ⟨v, rfl, hv⟩ := h e w' hR
    exact hK _ _ hv

set_option maxRecDepth 10000 in
set_option maxHeartbeats 4000000 in
theorem open6_ok (g : Nat) (p : Wh.P) (w : World) (ht : Wh.Tab w g) (hck : Wh.ck p = 0) :
    Calls Tryd.prog 14 #[.pointer (some ⟨g, 0, none⟩), .string (Wh.B (Wh.frameL 0 (Wh.bytesS (Wh.shape p.kind) p)))] w fun e w' => ∃ A' c', e = .returned (.tuple #[pV p A' c', .int .i64 0]) ∧ Fresh w w' := by
  have HFP : Hid (∀ W, Fresh w W → Calls Tryd.prog 12 #[.pointer (some ⟨g, 0, none⟩), .string (Wh.B (Wh.frameL 0 (Wh.bytesS (Wh.shape p.kind) p)))] W fun e w' => e = .returned (.tuple #[.agg #[.int .u8 0, .string (Wh.B (Wh.bytesS (Wh.shape p.kind) p))], .int .i64 0]) ∧ Fresh W w') := fun W h => fparse_any g 0 _ W (ht.fresh h) (by omega) (by omega) (Wh.bytes_len p hck)
  have HPP : Hid (∀ W, Calls Tryd.prog 13 #[.string (Wh.B (Wh.bytesS (Wh.shape p.kind) p))] W fun e w' => ∃ A' c', e = .returned (.tuple #[pV p A' c', .int .i64 0]) ∧ Fresh W w') := fun W => (parse6_any p none 0 W hck).mono fun e w' ⟨A', c', he, hf, _⟩ => ⟨A', c', he, hf⟩
  clear ht hck
  generalize Wh.B (Wh.frameL 0 (Wh.bytesS (Wh.shape p.kind) p)) = s at *
  generalize Wh.B (Wh.bytesS (Wh.shape p.kind) p) = D at *
  obtain ⟨kind, sq, n, ps, mr, l, self, data⟩ := p
  unfold pV at *
  simp only at HPP ⊢
  generalize l.length = len at *
  go_enter Tryd.func14, Tryd.ntmps14
  have HB : Hid (Blk (w.alloc (.cells #[.int .i64 0, .int .i64 0, .int .u32 0, .int .u32 0, .int .u32 0, .slice none 0 0, .bool false, .string ⟨#[]⟩] 32)) w.heap.size 32 zC) := Blk.new _ _ _
  go_upto_region 6 with (go_at_call 12; (with_reducible refine (HFP.out _ ((Touch.refl _ _).alloc _)).mono ?_); rintro e w2 ⟨rfl, f2⟩)
  have HBR : Hid (Blk (w2.alloc (.cells #[.int .u8 0, .string D] 44)) w.heap.size 32 zC) := (f2.blk HB.out (fun e => e)).alloc _
  have HFR : Hid (Blk (w2.alloc (.cells #[.int .u8 0, .string D] 44)) w2.heap.size 44 [.int .u8 0, .string D]) := Blk.new _ _ _
  have HF : Hid (Fresh w (w2.alloc (.cells #[.int .u8 0, .string D] 44))) := (((Touch.refl _ _).alloc _).trans f2 (fun _ _ e => e)).alloc _
  clear HFP f2 HB
  generalize (w2.alloc (.cells #[.int .u8 0, .string D] 44)) = w3 at *
  have q1 : w3.cell? ⟨w2.heap.size, 1, none⟩ = some (.string D) := HFR.out.cell 1
  clear HFR
  refine wp_region_lit ?_
  refine wpList_val (w' := w3) (v := .pointer (some ⟨w2.heap.size, 1, none⟩)) rfl (by unfold execOp; go_simp) ?_
  refine wpList_val (w' := w3) (v := .string D) rfl (by unfold execOp; go_simp) ?_
  refine wpList_enter (F := 13) (args := #[.string D]) rfl (by unfold execOp; go_simp) (HPP.out w3) ?_
  rintro e w4 ⟨A2, c2, rfl, f4⟩
  refine ⟨_, rfl, ?_⟩
  have HBR4 : Hid (Blk w4 w.heap.size 32 zC) := f4.blk HBR.out (fun e => e)
  have HF4 : Hid (Fresh w w4) := HF.out.trans f4 (fun _ _ e => e)
  clear f4 HBR HF q1 HPP
  refine wpList_val (w' := w4) (v := .agg #[.int .i64 kind, .int .i64 sq, .int .u32 n, .int .u32 ps, .int .u32 mr, .slice A2 len c2, .bool self, .string data]) rfl (by unfold execOp; go_simp) ?_
  refine wpList_val (w' := w4) (v := .int .i64 0) rfl (by unfold execOp; go_simp) ?_
  have HI : Hid ((Tryd.prog.info? 32).map (·.size) = some (#[.int .i64 kind, .int .i64 sq, .int .u32 n, .int .u32 ps, .int .u32 mr, .slice A2 len c2, .bool self, .string data] : Array Value).size) := by
    show _ = _
    kernel_rfl
  have HO1 : Hid ((#[.int .i64 kind, .int .i64 sq, .int .u32 n, .int .u32 ps, .int .u32 mr, .slice A2 len c2, .bool self, .string data] : Array Value).all (·.oneCell') = true) := by
    show _ = _
    simp [Value.oneCell']
  have HB11 : Hid (Blk (w4.setRow (w.heap.size) #[.int .i64 kind, .int .i64 sq, .int .u32 n, .int .u32 ps, .int .u32 mr, .slice A2 len c2, .bool self, .string data]) w.heap.size 32 [.int .i64 kind, .int .i64 sq, .int .u32 n, .int .u32 ps, .int .u32 mr, .slice A2 len c2, .bool self, .string data]) := setRow_heap w4 (w.heap.size) _ _ _ _ HBR4.out
  have HFE : Hid (Fresh w (w4.setRow (w.heap.size) #[.int .i64 kind, .int .i64 sq, .int .u32 n, .int .u32 ps, .int .u32 mr, .slice A2 len c2, .bool self, .string data])) := HF4.out.trans (⟨rfl, rfl, rfl, by simp, fun k _ hk => setRow_other w4 (w.heap.size) k _ hk⟩ : Touch (· = w.heap.size) w4 (w4.setRow (w.heap.size) #[.int .i64 kind, .int .i64 sq, .int .u32 n, .int .u32 ps, .int .u32 mr, .slice A2 len c2, .bool self, .string data])) (fun k hk e => by have e : k = w.heap.size := e; omega)
  refine wpList_store_row rfl 32 (.tmp 4) (.tmp 29) rfl (w.heap.size) #[.int .i64 kind, .int .i64 sq, .int .u32 n, .int .u32 ps, .int .u32 mr, .slice A2 len c2, .bool self, .string data] (by rfl) (by rfl) 32 zC.toArray HBR4.out HI.out (by rfl) HO1.out ?_
  generalize (w4.setRow (w.heap.size) #[.int .i64 kind, .int .i64 sq, .int .u32 n, .int .u32 ps, .int .u32 mr, .slice A2 len c2, .bool self, .string data]) = w11 at *
  have r0 : w11.cell? ⟨w.heap.size, 0, none⟩ = some (.int .i64 kind) := HB11.out.cell 0
  have r1 : w11.cell? ⟨w.heap.size, 1, none⟩ = some (.int .i64 sq) := HB11.out.cell 1
  have r2 : w11.cell? ⟨w.heap.size, 2, none⟩ = some (.int .u32 n) := HB11.out.cell 2
  have r3 : w11.cell? ⟨w.heap.size, 3, none⟩ = some (.int .u32 ps) := HB11.out.cell 3
  have r4 : w11.cell? ⟨w.heap.size, 4, none⟩ = some (.int .u32 mr) := HB11.out.cell 4
  have r5 : w11.cell? ⟨w.heap.size, 5, none⟩ = some (.slice A2 len c2) := HB11.out.cell 5
  have r6 : w11.cell? ⟨w.heap.size, 6, none⟩ = some (.bool self) := HB11.out.cell 6
  have r7 : w11.cell? ⟨w.heap.size, 7, none⟩ = some (.string data) := HB11.out.cell 7
  go_wp2_with fail
  refine bodyPost_ret (v := .tuple #[.agg #[.int .i64 kind, .int .i64 sq, .int .u32 n, .int .u32 ps, .int .u32 mr, .slice A2 len c2, .bool self, .string data], .int .i64 0]) (by simp [results, Tryd.results14, go_sem, r0, r1, r2, r3, r4, r5, r6, r7]) rfl ⟨A2, c2, rfl, HFE.out⟩
end Go.Proofs.YtpifgpmjnjbecaaDoor
