/-
  polliwoglaw16.Right: a config that may be, of any. No conditions.
-/
import Derived.Test.YtipaobpmojahaaaGreatNdO
import Derived.Test.YtipaobpmojahaaaGreatRow2
import Derived.Test.YtipaobpmojahaaaGreatOp6
import Derived.Deep.RegionHeld3
namespace Go.Proofs.YtipaobpmojahaaaGreat
open Go.RowKit
set_option maxRecDepth 20000

theorem rin_any (x m : Int) (w : World) :
    Calls Tryz.prog 25 #[.int .i64 x, .int .i64 m] w fun e w' => e = .returned (.int .i64 (max 1 (min x m))) ∧ w' = w := by
  obtain ⟨m1, hm⟩ : ∃ m1, (if m < x then m else x) = m1 := ⟨_, rfl⟩
  obtain ⟨m', hm'⟩ : ∃ m', (if 1 < m1 then m1 else 1) = m' := ⟨_, rfl⟩
  have hx : Hid (max 1 (min x m) = m') := by
    unfold Hid
    rw [← hm', ← hm]; (split <;> (try split) <;> omega)
  go_enter Tryz.func25, Tryz.ntmps25
  go_wp2
  go_ret
  exact ⟨by rw [hx.out]; first | rfl | simp, rfl⟩

def Right16 (w : World) (x0 x1 x2 x3 x4 x5 : Int) (e : Ending) (w' : World) : Prop :=
  ∃ g c0 c1 c2 c3 c4, e = .returned (.agg #[.int .i64 (max 1 (min x0 16)), .int .i64 (max 1 (min x1 64)), .int .i64 (max 1 (min x2 256)), .int .i64 (max 1 (min x3 64)), .int .i64 (max 1 (min x4 256)), .int .i64 (x5 % 16777216), .slice (some ⟨g, 0, none⟩) 5 5]) ∧ Sl intE w' (some ⟨g, 0, none⟩) 5 [c0, c1, c2, c3, c4] ∧ GoodC c0 c1 c2 c3 c4 ∧ Fresh w w' ∧ w.heap.size ≤ g
set_option maxHeartbeats 4000000 in
theorem right16_any (x0 x1 x2 x3 x4 x5 : Int) (A : Option Addr) (c : Nat) (L : List Int) (w : World) (h : Rd intE w A c L) :
    Calls Tryz.prog 10 #[.agg #[.int .i64 x0, .int .i64 x1, .int .i64 x2, .int .i64 x3, .int .i64 x4, .int .i64 x5, .slice A L.length c]] w (Right16 w x0 x1 x2 x3 x4 x5) := by
  have HR := Lib.hid h
  clear h
  have HO : Hid (∀ W, Fresh w W → Calls Tryz.prog 27 #[.slice A L.length c] W (RightPost W)) := fun W hW => right_any A c L W (HR.out.touch hW (fun _ _ _ e => e))
  have HI := Lib.hid rin_any
  have HS := Lib.hid (fun W => r01of_any x5 W)
  obtain ⟨y0, hy0⟩ : ∃ y, max 1 (min x0 16) = y := ⟨_, rfl⟩
  have HI0 : Hid (∀ W, Calls Tryz.prog 25 #[.int .i64 x0, .int .i64 16] W fun e w' => e = .returned (.int .i64 y0) ∧ w' = W) := by rw [← hy0]; exact fun W => rin_any x0 16 W
  obtain ⟨y1, hy1⟩ : ∃ y, max 1 (min x1 64) = y := ⟨_, rfl⟩
  have HI1 : Hid (∀ W, Calls Tryz.prog 25 #[.int .i64 x1, .int .i64 64] W fun e w' => e = .returned (.int .i64 y1) ∧ w' = W) := by rw [← hy1]; exact fun W => rin_any x1 64 W
  obtain ⟨y2, hy2⟩ : ∃ y, max 1 (min x2 256) = y := ⟨_, rfl⟩
  have HI2 : Hid (∀ W, Calls Tryz.prog 25 #[.int .i64 x2, .int .i64 256] W fun e w' => e = .returned (.int .i64 y2) ∧ w' = W) := by rw [← hy2]; exact fun W => rin_any x2 256 W
  obtain ⟨y3, hy3⟩ : ∃ y, max 1 (min x3 64) = y := ⟨_, rfl⟩
  have HI3 : Hid (∀ W, Calls Tryz.prog 25 #[.int .i64 x3, .int .i64 64] W fun e w' => e = .returned (.int .i64 y3) ∧ w' = W) := by rw [← hy3]; exact fun W => rin_any x3 64 W
  obtain ⟨y4, hy4⟩ : ∃ y, max 1 (min x4 256) = y := ⟨_, rfl⟩
  have HI4 : Hid (∀ W, Calls Tryz.prog 25 #[.int .i64 x4, .int .i64 256] W fun e w' => e = .returned (.int .i64 y4) ∧ w' = W) := by rw [← hy4]; exact fun W => rin_any x4 256 W
  obtain ⟨y5, hy5⟩ : ∃ y, x5 % 16777216 = y := ⟨_, rfl⟩
  rw [hy5] at HS
  have HPO : Hid (∀ e w', (∃ g c0 c1 c2 c3 c4, e = .returned (.agg #[.int .i64 y0, .int .i64 y1, .int .i64 y2, .int .i64 y3, .int .i64 y4, .int .i64 y5, .slice (some ⟨g, 0, none⟩) 5 5]) ∧ Sl intE w' (some ⟨g, 0, none⟩) 5 [c0, c1, c2, c3, c4] ∧ GoodC c0 c1 c2 c3 c4 ∧ Fresh w w' ∧ w.heap.size ≤ g) → Right16 w x0 x1 x2 x3 x4 x5 e w') := by
    rw [← hy0, ← hy1, ← hy2, ← hy3, ← hy4, ← hy5]
    exact fun e w' h => h
  clear hy0 hy1 hy2 hy3 hy4 hy5 HI
  refine Calls.mono ?_ HPO.out
  obtain ⟨w0, hw0⟩ : ∃ w0, w0 = (w.alloc (.cells #[.int .i64 x0, .int .i64 x1, .int .i64 x2, .int .i64 x3, .int .i64 x4, .int .i64 x5, .slice A L.length c] 24)).alloc (.cells #[.int .i64 0, .int .i64 0, .int .i64 0, .int .i64 0, .int .i64 0, .int .i64 0, .slice none 0 0] 24) := ⟨_, rfl⟩
  have HF : Hid (Fresh w w0) := by rw [hw0]; exact ((Touch.refl _ _).alloc _).alloc _
  obtain ⟨bg, hbg⟩ : ∃ bg, bg = w.heap.size := ⟨_, rfl⟩
  obtain ⟨br, hbr⟩ : ∃ br, br = w.heap.size + 1 := ⟨_, rfl⟩
  have HB : Hid (Blk w0 bg 24 [.int .i64 x0, .int .i64 x1, .int .i64 x2, .int .i64 x3, .int .i64 x4, .int .i64 x5, .slice A L.length c]) := by rw [hw0, hbg]; exact (Blk.new w _ _).alloc _
  have HBR : Hid (Blk w0 br 24 [.int .i64 0, .int .i64 0, .int .i64 0, .int .i64 0, .int .i64 0, .int .i64 0, .slice none 0 0]) := by
    have := Blk.new (w.alloc (.cells #[.int .i64 x0, .int .i64 x1, .int .i64 x2, .int .i64 x3, .int .i64 x4, .int .i64 x5, .slice A L.length c] 24)) 24 [.int .i64 0, .int .i64 0, .int .i64 0, .int .i64 0, .int .i64 0, .int .i64 0, .slice none 0 0]
    rw [hw0, hbr]
    unfold Hid
    simpa using this
  have HNE : Hid (bg ≠ br ∧ w.heap.size ≤ br) := by unfold Hid; omega
  have HKEEP : Hid (∀ wx, Touch (· = br) w0 wx → wx.cell? ⟨bg, 0, none⟩ = some (.int .i64 x0) ∧ wx.cell? ⟨bg, 1, none⟩ = some (.int .i64 x1) ∧ wx.cell? ⟨bg, 2, none⟩ = some (.int .i64 x2) ∧ wx.cell? ⟨bg, 3, none⟩ = some (.int .i64 x3) ∧ wx.cell? ⟨bg, 4, none⟩ = some (.int .i64 x4) ∧ wx.cell? ⟨bg, 5, none⟩ = some (.int .i64 x5) ∧ wx.cell? ⟨bg, 6, none⟩ = some (.slice A L.length c)) := fun wx ht => by
    have hb := ht.blk HB.out HNE.out.1
    exact ⟨hb.cell 0, hb.cell 1, hb.cell 2, hb.cell 3, hb.cell 4, hb.cell 5, hb.cell 6⟩
  go_enter Tryz.func10, Tryz.ntmps10
  go_wp2_with fail
  rw [← hw0, ← hbr, ← hbg]
  clear hw0 hbr hbg
  have hne1 : ¬ bg = br := HNE.out.1
  have hne2 : ¬ br = bg := fun e => hne1 e.symm
  have d0 : w0.cell? ⟨bg, 0, none⟩ = some (.int .i64 x0) := HB.out.cell 0
  have d1 : w0.cell? ⟨bg, 1, none⟩ = some (.int .i64 x1) := HB.out.cell 1
  have d2 : w0.cell? ⟨bg, 2, none⟩ = some (.int .i64 x2) := HB.out.cell 2
  have d3 : w0.cell? ⟨bg, 3, none⟩ = some (.int .i64 x3) := HB.out.cell 3
  have d4 : w0.cell? ⟨bg, 4, none⟩ = some (.int .i64 x4) := HB.out.cell 4
  have d5 : w0.cell? ⟨bg, 5, none⟩ = some (.int .i64 x5) := HB.out.cell 5
  have d6 : w0.cell? ⟨bg, 6, none⟩ = some (.slice A L.length c) := HB.out.cell 6
  have HO2 : Hid (Calls Tryz.prog 27 #[.slice A L.length c] w0.drew fun e w3 => ∃ g c0 c1 c2 c3 c4, e = .returned (.slice (some ⟨g, 0, none⟩) 5 5) ∧ Hid (Sl intE w3 (some ⟨g, 0, none⟩) 5 [c0, c1, c2, c3, c4]) ∧ Hid (GoodC c0 c1 c2 c3 c4) ∧ Hid (Touch (· = br) w0 w3) ∧ Hid (Blk w3 br 24 [.int .i64 0, .int .i64 0, .int .i64 0, .int .i64 0, .int .i64 0, .int .i64 0, .slice none 0 0]) ∧ Hid (Fresh w w3) ∧ Hid (w.heap.size ≤ g)) := (HO.out _ HF.out.drew).mono fun e w3 ⟨g, c0, c1, c2, c3, c4, h1, h2, h3, h4, h5⟩ =>
    ⟨g, c0, c1, c2, c3, c4, h1, h2, h3, ((Touch.refl _ _).drew).trans h4 (fun _ _ e => e.elim), h4.blk HBR.out.drew (fun e => e), HF.out.drew.trans h4 (fun _ _ e => e), by have h1 := HF.out.size; have h2 : w0.heap.size ≤ g := h5; unfold Hid; omega⟩
  go_region_held3 (fun wx => wx.cell? ⟨bg, 0, none⟩ = some (.int .i64 x0) ∧ wx.cell? ⟨bg, 1, none⟩ = some (.int .i64 x1) ∧ wx.cell? ⟨bg, 2, none⟩ = some (.int .i64 x2) ∧ wx.cell? ⟨bg, 3, none⟩ = some (.int .i64 x3) ∧ wx.cell? ⟨bg, 4, none⟩ = some (.int .i64 x4) ∧ wx.cell? ⟨bg, 5, none⟩ = some (.int .i64 x5) ∧ wx.cell? ⟨bg, 6, none⟩ = some (.slice A L.length c))
    (with_reducible refine HKEEP.out _ ?_; repeat (first | with_reducible exact Touch.refl _ _ | with_reducible exact HT3.out | with_reducible refine Touch.drew ?_ | with_reducible refine Touch.st ?_ rfl))
    (first
      | (go_simp; go_at_call 25; with_reducible refine (HI0.out _).mono ?_; rintro e w2 ⟨rfl, rfl⟩)
      | (go_simp; go_at_call 25; with_reducible refine (HI1.out _).mono ?_; rintro e w2 ⟨rfl, rfl⟩)
      | (go_simp; go_at_call 25; with_reducible refine (HI2.out _).mono ?_; rintro e w2 ⟨rfl, rfl⟩)
      | (go_simp; go_at_call 25; with_reducible refine (HI3.out _).mono ?_; rintro e w2 ⟨rfl, rfl⟩)
      | (go_simp; go_at_call 25; with_reducible refine (HI4.out _).mono ?_; rintro e w2 ⟨rfl, rfl⟩)
      | (go_simp; go_at_call 26; with_reducible refine (HS.out _).mono ?_; rintro e w2 ⟨rfl, rfl⟩)
      | (go_simp; go_at_call 27; with_reducible refine HO2.out.mono ?_; rintro e w3 ⟨g, c0, c1, c2, c3, c4, rfl, HS3, HG3, HT3, HR3, HF3, HGL⟩
         have z0 : w3.cell? ⟨br, 0, none⟩ = some (.int .i64 0) := HR3.out.cell 0
         have z1 : w3.cell? ⟨br, 1, none⟩ = some (.int .i64 0) := HR3.out.cell 1
         have z2 : w3.cell? ⟨br, 2, none⟩ = some (.int .i64 0) := HR3.out.cell 2
         have z3 : w3.cell? ⟨br, 3, none⟩ = some (.int .i64 0) := HR3.out.cell 3
         have z4 : w3.cell? ⟨br, 4, none⟩ = some (.int .i64 0) := HR3.out.cell 4
         have z5 : w3.cell? ⟨br, 5, none⟩ = some (.int .i64 0) := HR3.out.cell 5
         have z6 : w3.cell? ⟨br, 6, none⟩ = some (.slice none 0 0) := HR3.out.cell 6
         have q0 := HR3.out.frozen 0
         have q1 := HR3.out.frozen 1
         have q2 := HR3.out.frozen 2
         have q3 := HR3.out.frozen 3
         have q4 := HR3.out.frozen 4
         have q5 := HR3.out.frozen 5
         have q6 := HR3.out.frozen 6))
  all_goals
    have hk : ∀ i, (⟨br, i, none⟩ : Addr).block < w.heap.size → False := fun i e => by have e : br < w.heap.size := e; have := HNE.out.2; omega
    have hgb : ∀ ad, some (⟨g, 0, none⟩ : Addr) = some ad → ad.block ≠ br := HS3.out.blk_ne HR3.out (by decide)
    have HFF := Lib.hid (((((((HF3.out.setCell (hk 0) (.int .i64 y0)).setCell (hk 1) (.int .i64 y1)).setCell (hk 2) (.int .i64 y2)).setCell (hk 3) (.int .i64 y3)).setCell (hk 4) (.int .i64 y4)).setCell (hk 5) (.int .i64 y5)).setCell (hk 6) (.slice (some ⟨g, 0, none⟩) 5 5))
    have HBF := Lib.hid (((((((HR3.out.set 0 (.int .i64 y0)).set 1 (.int .i64 y1)).set 2 (.int .i64 y2)).set 3 (.int .i64 y3)).set 4 (.int .i64 y4)).set 5 (.int .i64 y5)).set 6 (.slice (some ⟨g, 0, none⟩) 5 5))
    have HSF := Lib.hid (((((((HS3.out.setCell (p := ⟨br, 0, none⟩) hgb (.int .i64 y0)).setCell (p := ⟨br, 1, none⟩) hgb (.int .i64 y1)).setCell (p := ⟨br, 2, none⟩) hgb (.int .i64 y2)).setCell (p := ⟨br, 3, none⟩) hgb (.int .i64 y3)).setCell (p := ⟨br, 4, none⟩) hgb (.int .i64 y4)).setCell (p := ⟨br, 5, none⟩) hgb (.int .i64 y5)).setCell (p := ⟨br, 6, none⟩) hgb (.slice (some ⟨g, 0, none⟩) 5 5))
    clear hk hgb
    go_wp2
    have e0 := HBF.out.cell 0
    have e1 := HBF.out.cell 1
    have e2 := HBF.out.cell 2
    have e3 := HBF.out.cell 3
    have e4 := HBF.out.cell 4
    have e5 := HBF.out.cell 5
    have e6 := HBF.out.cell 6
    simp only [List.set_cons_zero, List.set_cons_succ, List.getElem?_cons_zero, List.getElem?_cons_succ] at e0 e1 e2 e3 e4 e5 e6
    exact bodyPost_ret (v := .agg #[.int .i64 y0, .int .i64 y1, .int .i64 y2, .int .i64 y3, .int .i64 y4, .int .i64 y5, .slice (some ⟨g, 0, none⟩) 5 5]) (by simp [results, Tryz.results10, go_sem, e0, e1, e2, e3, e4, e5, e6]) rfl ⟨g, c0, c1, c2, c3, c4, rfl, HSF.out, HG3.out, HFF.out, HGL.out⟩
end Go.Proofs.YtipaobpmojahaaaGreat
