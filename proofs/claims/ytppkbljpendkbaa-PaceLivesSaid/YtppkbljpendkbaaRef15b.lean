/-
  polliwogref15: the document's answer for pace: each call.
-/
import Derived.Test.YtppkbljpendkbaaRef15
namespace Go.Proofs.Ytppkbljpendkbaa
open Go.RowKit

theorem R_at (w : World) (o1 : Obj) : Blk ((w.alloc o1).alloc (.cells #[.slice none 0 0, .slice none 0 0] 46)) (w.heap.size + 1) 46 [.slice none 0 0, .slice none 0 0] := by
  have := Blk.new (w.alloc o1) 46 [.slice none 0 0, .slice none 0 0]
  rw [show (w.alloc o1).heap.size = w.heap.size + 1 by simp] at this
  exact this
theorem RPost.eq {Tk : Option Addr} {ck : Nat} {l l' : List Int} {w w' : World} {e : Ending} (h : RPost Tk ck l w e w') (hl : l = l') : RPost Tk ck l' w e w' := hl ▸ h

section
variable (Tk Lf : Option Addr) (ck cl : Nat) (c l : List Int) (w : World)

set_option maxHeartbeats 1000000 in
theorem ref_begin (hc5 : c.length = 5) (hl5 : l.length = 5) (hck : Sl intE w Tk ck c) (hcl : Sl intE w Lf cl l) :
    Calls Try.prog 23 #[.agg #[.slice Tk 5 ck, .slice Lf 5 cl]] w (RPost Tk ck (Rf.ons c (Rf.offs l [2, 4]) [1, 3]) w) := by
  have HCk := Lib.hid hck
  have HCl := Lib.hid hcl
  have HC5 := Lib.hid hc5
  have HL5 := Lib.hid hl5
  clear hck hcl hc5 hl5
  go_enter Try.func23, Try.ntmps23
  go_wp2_with fail
  refine (set15_any Tk Lf _ _ ck cl _ _ c l [1, 3] [2, 4] _ HC5.out HL5.out ((((HCk.out.alloc _).alloc _).alloc _).alloc _) ((((HCl.out.alloc _).alloc _).alloc _).alloc _) ((Sl.lit intE _ _ (by simp) _ _ rfl _ rfl (by decide)).alloc _) (Sl.lit intE _ _ (by simp) _ _ rfl _ rfl (by decide)) (by simp) (by simp) (by simp) (by simp)).mono ?_
  rintro e w1 ⟨A, c', rfl, s1, t1⟩
  have HRR := Lib.hid (t1.blk ((((R_at w _)).alloc _).alloc _) (fun h => h))
  have HF := Lib.hid ((((((Touch.refl _ w).alloc _).alloc _).alloc _).alloc _ : Fresh w _).trans t1 (fun _ _ h => h))
  have HS := Lib.hid s1
  clear s1 t1
  obtain ⟨gb, hgb⟩ : ∃ gb, gb = w.heap.size := ⟨_, rfl⟩
  rw [← hgb] at HRR ⊢
  have HGB := Lib.hid hgb
  have hgw : gb + 1 < w1.heap.size := HRR.out.lt
  clear hgb
  have hr0 : w1.cell? ⟨gb + 1, 0, none⟩ = some (.slice none 0 0) := HRR.out.cell 0
  have hr1 : w1.cell? ⟨gb + 1, 1, none⟩ = some (.slice none 0 0) := HRR.out.cell 1
  have hf0 := HRR.out.frozen 0
  have hf1 := HRR.out.frozen 1
  have HBf := Lib.hid ((HRR.out.set 0 (.slice Tk 5 ck)).set 1 (.slice A 5 c'))
  have hne : ∀ ad, A = some ad → ad.block ≠ gb + 1 := HS.out.blk_ne HRR.out (by decide)
  have HSf := Lib.hid ((HS.out.setCell (p := ⟨gb + 1, 0, none⟩) hne (.slice Tk 5 ck)).setCell (p := ⟨gb + 1, 1, none⟩) hne (.slice A 5 c'))
  have HFf : Hid (Fresh w ((w1.setCell ⟨gb + 1, 0, none⟩ (.slice Tk 5 ck)).setCell ⟨gb + 1, 1, none⟩ (.slice A 5 c'))) :=
    (HF.out.setCell (fun h => by have := HGB.out; simp at h; omega) _).setCell (fun h => by have := HGB.out; simp at h; omega) _
  clear HS HF HRR hne
  go_wp2
  generalize ((w1.setCell ⟨gb + 1, 0, none⟩ (.slice Tk 5 ck)).setCell ⟨gb + 1, 1, none⟩ (.slice A 5 c')) = wf at *
  have e0 : wf.cell? ⟨gb + 1, 0, none⟩ = some (.slice Tk 5 ck) := HBf.out.cell 0
  have e1 : wf.cell? ⟨gb + 1, 1, none⟩ = some (.slice A 5 c') := HBf.out.cell 1
  exact bodyPost_ret (v := .agg #[.slice Tk 5 ck, .slice A 5 c']) (by simp [results, Try.results23, go_sem, e0, e1]) rfl ⟨A, c', rfl, HSf.out, HFf.out⟩

set_option maxHeartbeats 1000000 in
theorem ref_end (hc5 : c.length = 5) (hl5 : l.length = 5) (hck : Sl intE w Tk ck c) (hcl : Sl intE w Lf cl l) :
    Calls Try.prog 32 #[.agg #[.slice Tk 5 ck, .slice Lf 5 cl]] w (RPost Tk ck (Rf.ons c (Rf.offs l [1, 2, 3, 4]) []) w) := by
  have HCk := Lib.hid hck
  have HCl := Lib.hid hcl
  have HC5 := Lib.hid hc5
  have HL5 := Lib.hid hl5
  clear hck hcl hc5 hl5
  go_enter Try.func32, Try.ntmps32
  go_wp2_with fail
  refine (set15_any Tk Lf _ _ ck cl _ _ c l [] [1, 2, 3, 4] _ HC5.out HL5.out (((HCk.out.alloc _).alloc _).alloc _) (((HCl.out.alloc _).alloc _).alloc _) (Sl.nil _ _) (Sl.lit intE _ _ (by simp) _ _ rfl _ rfl (by decide)) (by simp) (by simp) (by simp) (by simp)).mono ?_
  rintro e w1 ⟨A, c', rfl, s1, t1⟩
  have HRR := Lib.hid (t1.blk (((R_at w _)).alloc _) (fun h => h))
  have HF := Lib.hid (((((Touch.refl _ w).alloc _).alloc _).alloc _ : Fresh w _).trans t1 (fun _ _ h => h))
  have HS := Lib.hid s1
  clear s1 t1
  obtain ⟨gb, hgb⟩ : ∃ gb, gb = w.heap.size := ⟨_, rfl⟩
  rw [← hgb] at HRR ⊢
  have HGB := Lib.hid hgb
  have hgw : gb + 1 < w1.heap.size := HRR.out.lt
  clear hgb
  have hr0 : w1.cell? ⟨gb + 1, 0, none⟩ = some (.slice none 0 0) := HRR.out.cell 0
  have hr1 : w1.cell? ⟨gb + 1, 1, none⟩ = some (.slice none 0 0) := HRR.out.cell 1
  have hf0 := HRR.out.frozen 0
  have hf1 := HRR.out.frozen 1
  have HBf := Lib.hid ((HRR.out.set 0 (.slice Tk 5 ck)).set 1 (.slice A 5 c'))
  have hne : ∀ ad, A = some ad → ad.block ≠ gb + 1 := HS.out.blk_ne HRR.out (by decide)
  have HSf := Lib.hid ((HS.out.setCell (p := ⟨gb + 1, 0, none⟩) hne (.slice Tk 5 ck)).setCell (p := ⟨gb + 1, 1, none⟩) hne (.slice A 5 c'))
  have HFf : Hid (Fresh w ((w1.setCell ⟨gb + 1, 0, none⟩ (.slice Tk 5 ck)).setCell ⟨gb + 1, 1, none⟩ (.slice A 5 c'))) :=
    (HF.out.setCell (fun h => by have := HGB.out; simp at h; omega) _).setCell (fun h => by have := HGB.out; simp at h; omega) _
  clear HS HF HRR hne
  go_wp2
  generalize ((w1.setCell ⟨gb + 1, 0, none⟩ (.slice Tk 5 ck)).setCell ⟨gb + 1, 1, none⟩ (.slice A 5 c')) = wf at *
  have e0 : wf.cell? ⟨gb + 1, 0, none⟩ = some (.slice Tk 5 ck) := HBf.out.cell 0
  have e1 : wf.cell? ⟨gb + 1, 1, none⟩ = some (.slice A 5 c') := HBf.out.cell 1
  exact bodyPost_ret (v := .agg #[.slice Tk 5 ck, .slice A 5 c']) (by simp [results, Try.results32, go_sem, e0, e1]) rfl ⟨A, c', rfl, HSf.out, HFf.out⟩

set_option maxHeartbeats 1000000 in
theorem ref_again (hc5 : c.length = 5) (hl5 : l.length = 5) (hck : Sl intE w Tk ck c) (hcl : Sl intE w Lf cl l) :
    Calls Try.prog 34 #[.agg #[.slice Tk 5 ck, .slice Lf 5 cl]] w (RPost Tk ck (Rf.ons c (Rf.offs l []) [0]) w) := by
  have HCk := Lib.hid hck
  have HCl := Lib.hid hcl
  have HC5 := Lib.hid hc5
  have HL5 := Lib.hid hl5
  clear hck hcl hc5 hl5
  go_enter Try.func34, Try.ntmps34
  go_wp2_with fail
  refine (set15_any Tk Lf _ _ ck cl _ _ c l [0] [] _ HC5.out HL5.out (((HCk.out.alloc _).alloc _).alloc _) (((HCl.out.alloc _).alloc _).alloc _) (Sl.lit intE _ _ (by simp) _ _ rfl _ rfl (by decide)) (Sl.nil _ _) (by simp) (by simp) (by simp) (by simp)).mono ?_
  rintro e w1 ⟨A, c', rfl, s1, t1⟩
  have HRR := Lib.hid (t1.blk (((R_at w _)).alloc _) (fun h => h))
  have HF := Lib.hid (((((Touch.refl _ w).alloc _).alloc _).alloc _ : Fresh w _).trans t1 (fun _ _ h => h))
  have HS := Lib.hid s1
  clear s1 t1
  obtain ⟨gb, hgb⟩ : ∃ gb, gb = w.heap.size := ⟨_, rfl⟩
  rw [← hgb] at HRR ⊢
  have HGB := Lib.hid hgb
  have hgw : gb + 1 < w1.heap.size := HRR.out.lt
  clear hgb
  have hr0 : w1.cell? ⟨gb + 1, 0, none⟩ = some (.slice none 0 0) := HRR.out.cell 0
  have hr1 : w1.cell? ⟨gb + 1, 1, none⟩ = some (.slice none 0 0) := HRR.out.cell 1
  have hf0 := HRR.out.frozen 0
  have hf1 := HRR.out.frozen 1
  have HBf := Lib.hid ((HRR.out.set 0 (.slice Tk 5 ck)).set 1 (.slice A 5 c'))
  have hne : ∀ ad, A = some ad → ad.block ≠ gb + 1 := HS.out.blk_ne HRR.out (by decide)
  have HSf := Lib.hid ((HS.out.setCell (p := ⟨gb + 1, 0, none⟩) hne (.slice Tk 5 ck)).setCell (p := ⟨gb + 1, 1, none⟩) hne (.slice A 5 c'))
  have HFf : Hid (Fresh w ((w1.setCell ⟨gb + 1, 0, none⟩ (.slice Tk 5 ck)).setCell ⟨gb + 1, 1, none⟩ (.slice A 5 c'))) :=
    (HF.out.setCell (fun h => by have := HGB.out; simp at h; omega) _).setCell (fun h => by have := HGB.out; simp at h; omega) _
  clear HS HF HRR hne
  go_wp2
  generalize ((w1.setCell ⟨gb + 1, 0, none⟩ (.slice Tk 5 ck)).setCell ⟨gb + 1, 1, none⟩ (.slice A 5 c')) = wf at *
  have e0 : wf.cell? ⟨gb + 1, 0, none⟩ = some (.slice Tk 5 ck) := HBf.out.cell 0
  have e1 : wf.cell? ⟨gb + 1, 1, none⟩ = some (.slice A 5 c') := HBf.out.cell 1
  exact bodyPost_ret (v := .agg #[.slice Tk 5 ck, .slice A 5 c']) (by simp [results, Try.results34, go_sem, e0, e1]) rfl ⟨A, c', rfl, HSf.out, HFf.out⟩

set_option maxHeartbeats 1000000 in
theorem ref_enough (hc5 : c.length = 5) (hl5 : l.length = 5) (hck : Sl intE w Tk ck c) (hcl : Sl intE w Lf cl l) :
    Calls Try.prog 36 #[.agg #[.slice Tk 5 ck, .slice Lf 5 cl]] w (RPost Tk ck (Rf.ons c (Rf.offs l [0]) []) w) := by
  have HCk := Lib.hid hck
  have HCl := Lib.hid hcl
  have HC5 := Lib.hid hc5
  have HL5 := Lib.hid hl5
  clear hck hcl hc5 hl5
  go_enter Try.func36, Try.ntmps36
  go_wp2_with fail
  refine (set15_any Tk Lf _ _ ck cl _ _ c l [] [0] _ HC5.out HL5.out (((HCk.out.alloc _).alloc _).alloc _) (((HCl.out.alloc _).alloc _).alloc _) (Sl.nil _ _) (Sl.lit intE _ _ (by simp) _ _ rfl _ rfl (by decide)) (by simp) (by simp) (by simp) (by simp)).mono ?_
  rintro e w1 ⟨A, c', rfl, s1, t1⟩
  have HRR := Lib.hid (t1.blk (((R_at w _)).alloc _) (fun h => h))
  have HF := Lib.hid (((((Touch.refl _ w).alloc _).alloc _).alloc _ : Fresh w _).trans t1 (fun _ _ h => h))
  have HS := Lib.hid s1
  clear s1 t1
  obtain ⟨gb, hgb⟩ : ∃ gb, gb = w.heap.size := ⟨_, rfl⟩
  rw [← hgb] at HRR ⊢
  have HGB := Lib.hid hgb
  have hgw : gb + 1 < w1.heap.size := HRR.out.lt
  clear hgb
  have hr0 : w1.cell? ⟨gb + 1, 0, none⟩ = some (.slice none 0 0) := HRR.out.cell 0
  have hr1 : w1.cell? ⟨gb + 1, 1, none⟩ = some (.slice none 0 0) := HRR.out.cell 1
  have hf0 := HRR.out.frozen 0
  have hf1 := HRR.out.frozen 1
  have HBf := Lib.hid ((HRR.out.set 0 (.slice Tk 5 ck)).set 1 (.slice A 5 c'))
  have hne : ∀ ad, A = some ad → ad.block ≠ gb + 1 := HS.out.blk_ne HRR.out (by decide)
  have HSf := Lib.hid ((HS.out.setCell (p := ⟨gb + 1, 0, none⟩) hne (.slice Tk 5 ck)).setCell (p := ⟨gb + 1, 1, none⟩) hne (.slice A 5 c'))
  have HFf : Hid (Fresh w ((w1.setCell ⟨gb + 1, 0, none⟩ (.slice Tk 5 ck)).setCell ⟨gb + 1, 1, none⟩ (.slice A 5 c'))) :=
    (HF.out.setCell (fun h => by have := HGB.out; simp at h; omega) _).setCell (fun h => by have := HGB.out; simp at h; omega) _
  clear HS HF HRR hne
  go_wp2
  generalize ((w1.setCell ⟨gb + 1, 0, none⟩ (.slice Tk 5 ck)).setCell ⟨gb + 1, 1, none⟩ (.slice A 5 c')) = wf at *
  have e0 : wf.cell? ⟨gb + 1, 0, none⟩ = some (.slice Tk 5 ck) := HBf.out.cell 0
  have e1 : wf.cell? ⟨gb + 1, 1, none⟩ = some (.slice A 5 c') := HBf.out.cell 1
  exact bodyPost_ret (v := .agg #[.slice Tk 5 ck, .slice A 5 c']) (by simp [results, Try.results36, go_sem, e0, e1]) rfl ⟨A, c', rfl, HSf.out, HFf.out⟩
end
end Go.Proofs.Ytppkbljpendkbaa
