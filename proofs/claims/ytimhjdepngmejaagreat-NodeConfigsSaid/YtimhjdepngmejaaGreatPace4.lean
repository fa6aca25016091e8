/-
  pace.New, pace.Clone at ticks that may be; polliwoglaw15: the fixed fact.
-/
import Derived.Test.YtimhjdepngmejaaGreatPace3
import Derived.BigRegion
namespace Go.Proofs.YtimhjdepngmejaaGreat
open Go.RowKit
set_option maxRecDepth 20000

set_option maxHeartbeats 1000000 in
theorem own15_any (g c0 c1 c2 c3 c4 : _) (w : World) (h : Sl intE w (some ⟨g, 0, none⟩) 5 [c0, c1, c2, c3, c4]) :
    Calls Tryz.prog 23 #[.slice (some ⟨g, 0, none⟩) 5 5] w fun e w' => e = .returned (.agg #[.int .i64 c0, .int .i64 c1, .int .i64 c2, .int .i64 c3, .int .i64 c4]) ∧ Fresh w w' := by
  have hg := h.lt _ rfl
  simp only at hg
  have HS := Lib.hid h
  clear h
  go_enter Tryz.func23, Tryz.ntmps23
  go_wp2
  have hs := HS.out.alloc (.cells #[.int .i64 0, .int .i64 0, .int .i64 0, .int .i64 0, .int .i64 0] 29)
  have HB := Lib.hid (Blk.new w 29 [.int .i64 0, .int .i64 0, .int .i64 0, .int .i64 0, .int .i64 0])
  have HT : Hid (Fresh w (w.alloc (.cells #[.int .i64 0, .int .i64 0, .int .i64 0, .int .i64 0, .int .i64 0] 29))) := (Touch.refl _ w).alloc _
  generalize w.alloc (.cells #[.int .i64 0, .int .i64 0, .int .i64 0, .int .i64 0, .int .i64 0] 29) = wa at *
  have k0 : wa.cell? ⟨g, 0, none⟩ = some (.int .i64 c0) := hs.int_at0 0 (by simp)
  have k1 : wa.cell? ⟨g, 1, none⟩ = some (.int .i64 c1) := hs.int_at0 1 (by simp)
  have k2 : wa.cell? ⟨g, 2, none⟩ = some (.int .i64 c2) := hs.int_at0 2 (by simp)
  have k3 : wa.cell? ⟨g, 3, none⟩ = some (.int .i64 c3) := hs.int_at0 3 (by simp)
  have k4 : wa.cell? ⟨g, 4, none⟩ = some (.int .i64 c4) := hs.int_at0 4 (by simp)
  have HW : ∃ gb, gb = w.heap.size := ⟨_, rfl⟩
  obtain ⟨gb, hgb⟩ := HW
  rw [← hgb] at HB ⊢
  have HGB := Lib.hid hgb
  clear hs hgb
  have f0 := HB.out.frozen 0
  have f1 := HB.out.frozen 1
  have f2 := HB.out.frozen 2
  have f3 := HB.out.frozen 3
  have f4 := HB.out.frozen 4
  have d0 : wa.cell? ⟨gb, 0, none⟩ = some (.int .i64 0) := HB.out.cell 0
  have d1 : wa.cell? ⟨gb, 1, none⟩ = some (.int .i64 0) := HB.out.cell 1
  have d2 : wa.cell? ⟨gb, 2, none⟩ = some (.int .i64 0) := HB.out.cell 2
  have d3 : wa.cell? ⟨gb, 3, none⟩ = some (.int .i64 0) := HB.out.cell 3
  have d4 : wa.cell? ⟨gb, 4, none⟩ = some (.int .i64 0) := HB.out.cell 4
  go_still_tail 16, (by kernel_rfl)
  go_wp2
  have hBf : Blk (((((wa.setCell ⟨gb, 0, none⟩ (.int .i64 c0)).setCell ⟨gb, 1, none⟩ (.int .i64 c1)).setCell ⟨gb, 2, none⟩ (.int .i64 c2)).setCell ⟨gb, 3, none⟩ (.int .i64 c3)).setCell ⟨gb, 4, none⟩ (.int .i64 c4)).drew gb 29 [.int .i64 c0, .int .i64 c1, .int .i64 c2, .int .i64 c3, .int .i64 c4] := (((((HB.out.set 0 (.int .i64 c0)).set 1 (.int .i64 c1)).set 2 (.int .i64 c2)).set 3 (.int .i64 c3)).set 4 (.int .i64 c4)).drew
  have hTf : Fresh w (((((wa.setCell ⟨gb, 0, none⟩ (.int .i64 c0)).setCell ⟨gb, 1, none⟩ (.int .i64 c1)).setCell ⟨gb, 2, none⟩ (.int .i64 c2)).setCell ⟨gb, 3, none⟩ (.int .i64 c3)).setCell ⟨gb, 4, none⟩ (.int .i64 c4)).drew := by
    have hgb := HGB.out
    exact (((((HT.out.setCell (fun h => by simp at h; omega) _).setCell (fun h => by simp at h; omega) _).setCell (fun h => by simp at h; omega) _).setCell (fun h => by simp at h; omega) _).setCell (fun h => by simp at h; omega) _).drew
  generalize (((((wa.setCell ⟨gb, 0, none⟩ (.int .i64 c0)).setCell ⟨gb, 1, none⟩ (.int .i64 c1)).setCell ⟨gb, 2, none⟩ (.int .i64 c2)).setCell ⟨gb, 3, none⟩ (.int .i64 c3)).setCell ⟨gb, 4, none⟩ (.int .i64 c4)).drew = wf at *
  have e0 : wf.cell? ⟨gb, 0, none⟩ = some (.int .i64 c0) := hBf.cell 0
  have e1 : wf.cell? ⟨gb, 1, none⟩ = some (.int .i64 c1) := hBf.cell 1
  have e2 : wf.cell? ⟨gb, 2, none⟩ = some (.int .i64 c2) := hBf.cell 2
  have e3 : wf.cell? ⟨gb, 3, none⟩ = some (.int .i64 c3) := hBf.cell 3
  have e4 : wf.cell? ⟨gb, 4, none⟩ = some (.int .i64 c4) := hBf.cell 4
  exact bodyPost_ret (v := .agg #[.int .i64 c0, .int .i64 c1, .int .i64 c2, .int .i64 c3, .int .i64 c4]) (by simp [results, Tryz.results23, go_sem, e0, e1, e2, e3, e4]) rfl ⟨rfl, hTf⟩

set_option maxHeartbeats 1000000 in
theorem check15_any (c0 c1 c2 c3 c4 : Int) (w : World) (hg : GoodC c0 c1 c2 c3 c4) :
    Calls Tryz.prog 30 #[.agg #[.int .i64 c0, .int .i64 c1, .int .i64 c2, .int .i64 c3, .int .i64 c4]] w fun e w' => e = .returned (.int .i64 0) ∧ Fresh w w' := by
  obtain ⟨⟨a0, b0⟩, ⟨a1, b1⟩, ⟨a2, b2⟩, ⟨a3, b3⟩, ⟨a4, b4⟩, h1, h2⟩ := hg
  have i0 : ∀ w, (Instr.index 79 (.agg #[.int .i64 c0, .int .i64 c1, .int .i64 c2, .int .i64 c3, .int .i64 c4]) (.int .i64 0)).run Tryz.prog w = .ok (.int .i64 c0) w := fun _ => by kernel_rfl
  have i1 : ∀ w, (Instr.index 79 (.agg #[.int .i64 c0, .int .i64 c1, .int .i64 c2, .int .i64 c3, .int .i64 c4]) (.int .i64 1)).run Tryz.prog w = .ok (.int .i64 c1) w := fun _ => by kernel_rfl
  have i2 : ∀ w, (Instr.index 79 (.agg #[.int .i64 c0, .int .i64 c1, .int .i64 c2, .int .i64 c3, .int .i64 c4]) (.int .i64 2)).run Tryz.prog w = .ok (.int .i64 c2) w := fun _ => by kernel_rfl
  have i3 : ∀ w, (Instr.index 79 (.agg #[.int .i64 c0, .int .i64 c1, .int .i64 c2, .int .i64 c3, .int .i64 c4]) (.int .i64 3)).run Tryz.prog w = .ok (.int .i64 c3) w := fun _ => by kernel_rfl
  have i4 : ∀ w, (Instr.index 79 (.agg #[.int .i64 c0, .int .i64 c1, .int .i64 c2, .int .i64 c3, .int .i64 c4]) (.int .i64 4)).run Tryz.prog w = .ok (.int .i64 c4) w := fun _ => by kernel_rfl
  go_enter Tryz.func30, Tryz.ntmps30
  go_wp2
  go_loopw [16] (fun i wr => ∃ k : Nat, k ≤ 5 ∧ i = .int .i64 k ∧ Hid (Fresh w wr) ∧ Hid (Blk wr w.heap.size 29 [.int .i64 c0, .int .i64 c1, .int .i64 c2, .int .i64 c3, .int .i64 c4])) (fun i _ => 5 - (intOf i).toNat)
  case atStart => exact ⟨0, by omega, rfl, (Touch.refl _ w).alloc _, Blk.new w _ _⟩
  case round =>
    obtain ⟨k, hk, rfl, ht, hb⟩ := hrel
    rcases (show k = 0 ∨ k = 1 ∨ k = 2 ∨ k = 3 ∨ k = 4 ∨ k = 5 by omega) with rfl | rfl | rfl | rfl | rfl | rfl
    · go_wp2
      go_roundw
      case rel => exact ⟨1, by omega, rfl, ht, hb⟩
      case measure => simp [intOf]
    · go_wp2
      go_roundw
      case rel => exact ⟨2, by omega, rfl, ht, hb⟩
      case measure => simp [intOf]
    · go_wp2
      go_roundw
      case rel => exact ⟨3, by omega, rfl, ht, hb⟩
      case measure => simp [intOf]
    · go_wp2
      go_roundw
      case rel => exact ⟨4, by omega, rfl, ht, hb⟩
      case measure => simp [intOf]
    · go_wp2
      go_roundw
      case rel => exact ⟨5, by omega, rfl, ht, hb⟩
      case measure => simp [intOf]
    · have k1 : wr.cell? ⟨w.heap.size, 1, none⟩ = some (.int .i64 c1) := hb.out.cell 1
      have k2 : wr.cell? ⟨w.heap.size, 2, none⟩ = some (.int .i64 c2) := hb.out.cell 2
      have k3 : wr.cell? ⟨w.heap.size, 3, none⟩ = some (.int .i64 c3) := hb.out.cell 3
      go_wp2
      go_ret
      exact ⟨rfl, ht.out⟩

set_option maxHeartbeats 1000000 in
theorem new15_any (c0 c1 c2 c3 c4 : Int) (w : World) (hg : GoodC c0 c1 c2 c3 c4) :
    Calls Tryz.prog 24 #[.agg #[.int .i64 c0, .int .i64 c1, .int .i64 c2, .int .i64 c3, .int .i64 c4]] w fun e w' => ∃ g, e = .returned (.tuple #[.pointer (some ⟨g, 0, none⟩), .int .i64 0]) ∧ Pk w' g [0, 0, 0, 0, 0] c0 c1 c2 c3 c4 ∧ Fresh w w' ∧ w.heap.size ≤ g := by
  have HG := Lib.hid hg
  clear hg
  go_enter Tryz.func24, Tryz.ntmps24
  go_wp2_with fail
  refine (check15_any c0 c1 c2 c3 c4 _ HG.out).mono ?_
  rintro e w1 ⟨rfl, t1⟩
  have B1 := t1.blk (Blk.new w 29 [.int .i64 c0, .int .i64 c1, .int .i64 c2, .int .i64 c3, .int .i64 c4]) (fun h => h)
  have k0 : w1.cell? ⟨w.heap.size, 0, none⟩ = some (.int .i64 c0) := B1.cell 0
  have k1 : w1.cell? ⟨w.heap.size, 1, none⟩ = some (.int .i64 c1) := B1.cell 1
  have k2 : w1.cell? ⟨w.heap.size, 2, none⟩ = some (.int .i64 c2) := B1.cell 2
  have k3 : w1.cell? ⟨w.heap.size, 3, none⟩ = some (.int .i64 c3) := B1.cell 3
  have k4 : w1.cell? ⟨w.heap.size, 4, none⟩ = some (.int .i64 c4) := B1.cell 4
  have T1 := Lib.hid (((Touch.refl _ w).alloc _).trans t1 (fun _ _ h => h))
  have hs := T1.out.size
  clear t1 B1
  go_wp2
  go_ret2
  exact ⟨_, rfl, ⟨rfl, by simp, Blk.new _ _ [.int .i64 0, .int .i64 0, .int .i64 0, .int .i64 0, .int .i64 0, .int .i64 c0, .int .i64 c1, .int .i64 c2, .int .i64 c3, .int .i64 c4]⟩, T1.out.alloc _, hs⟩

set_option maxHeartbeats 1000000 in
theorem clone15_any (g : Nat) (l : List Int) (c0 c1 c2 c3 c4 : Int) (w : World) (h : Pk w g l c0 c1 c2 c3 c4) :
    Calls Tryz.prog 122 #[.pointer (some ⟨g, 0, none⟩)] w fun e w' => e = .returned (.pointer (some ⟨w.heap.size, 0, none⟩)) ∧ Pk w' w.heap.size l c0 c1 c2 c3 c4 ∧ Fresh w w' := by
  have H := Lib.hid h
  obtain ⟨hl, hb, hB⟩ := h
  match l, hl with
  | [l0, l1, l2, l3, l4], _ =>
  have k0 : w.cell? ⟨g, 0, none⟩ = some (.int .i64 l0) := hB.cell 0
  have k1 : w.cell? ⟨g, 1, none⟩ = some (.int .i64 l1) := hB.cell 1
  have k2 : w.cell? ⟨g, 2, none⟩ = some (.int .i64 l2) := hB.cell 2
  have k3 : w.cell? ⟨g, 3, none⟩ = some (.int .i64 l3) := hB.cell 3
  have k4 : w.cell? ⟨g, 4, none⟩ = some (.int .i64 l4) := hB.cell 4
  have k5 : w.cell? ⟨g, 5, none⟩ = some (.int .i64 c0) := hB.cell 5
  have k6 : w.cell? ⟨g, 6, none⟩ = some (.int .i64 c1) := hB.cell 6
  have k7 : w.cell? ⟨g, 7, none⟩ = some (.int .i64 c2) := hB.cell 7
  have k8 : w.cell? ⟨g, 8, none⟩ = some (.int .i64 c3) := hB.cell 8
  have k9 : w.cell? ⟨g, 9, none⟩ = some (.int .i64 c4) := hB.cell 9
  have hg := hB.lt
  have HB := Lib.hid hb
  clear hB hb
  go_enter Tryz.func122, Tryz.ntmps122
  go_wp2
  go_ret
  exact ⟨rfl, ⟨rfl, HB.out, Blk.new _ _ [.int .i64 l0, .int .i64 l1, .int .i64 l2, .int .i64 l3, .int .i64 l4, .int .i64 c0, .int .i64 c1, .int .i64 c2, .int .i64 c3, .int .i64 c4]⟩, (Touch.refl _ w).alloc _⟩
end Go.Proofs.YtimhjdepngmejaaGreat
