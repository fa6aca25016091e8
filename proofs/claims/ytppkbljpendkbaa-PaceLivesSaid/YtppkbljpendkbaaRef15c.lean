/-
  polliwogref15: the document's answer for pace: the calls that look first.
-/
import Derived.Test.YtppkbljpendkbaaRef15b
import Derived.Deep.DeepCutAuto
import Derived.Deep.CutBlock
namespace Go.Proofs.Ytppkbljpendkbaa
open Go.RowKit


namespace Rf
def watch (c l : List Int) : List Int := if 0 < l.getD 3 0 then l else ons c l [3]
def busy (c l : List Int) : List Int := if l.getD 2 0 = 0 ∧ l.getD 4 0 = 0 then l else watch c (ons c (offs l [2, 4]) [1])
def polled (c l : List Int) (idle : Bool) : List Int := if idle = true then watch c (ons c (offs l [1, 4]) [2]) else watch c (ons c (offs l [2, 4]) [1])
def answered (c l : List Int) (idle : Bool) : List Int := if idle = true ∧ 0 < l.getD 2 0 then ons c (offs l [2, 3]) [4] else if 0 < l.getD 4 0 then l else ons c l [3]
end Rf

section
variable (Tk Lf : Option Addr) (ck cl : Nat) (c l : List Int) (w : World)

set_option maxHeartbeats 1000000 in
theorem ref_watch (hc5 : c.length = 5) (hl5 : l.length = 5) (hck : Sl intE w Tk ck c) (hcl : Sl intE w Lf cl l) :
    Calls Try.prog 44 #[.agg #[.slice Tk 5 ck, .slice Lf 5 cl]] w (RPost Tk ck (Rf.watch c l) w) := by
  obtain ⟨gl, ol, rfl⟩ := hcl.some5 (by omega)
  obtain ⟨x3, hx3⟩ : ∃ x3, x3 = l.getD 3 0 := ⟨_, rfl⟩
  have HX3 := Lib.hid hx3
  have HC5 := Lib.hid hc5
  have HL5 := Lib.hid hl5
  have HK1 := Lib.hid ((hck.alloc (.cells #[.slice Tk 5 ck, .slice (some ⟨gl, ol, none⟩) 5 cl] 46)).alloc (.cells #[.slice none 0 0, .slice none 0 0] 46))
  have HL1 := Lib.hid ((hcl.alloc (.cells #[.slice Tk 5 ck, .slice (some ⟨gl, ol, none⟩) 5 cl] 46)).alloc (.cells #[.slice none 0 0, .slice none 0 0] 46))
  have HB1 := Lib.hid ((Blk.new w 46 [.slice Tk 5 ck, .slice (some ⟨gl, ol, none⟩) 5 cl]).alloc (.cells #[.slice none 0 0, .slice none 0 0] 46))
  have HR1 := Lib.hid (R_at w (.cells #[.slice Tk 5 ck, .slice (some ⟨gl, ol, none⟩) 5 cl] 46))
  have HF1 : Hid (Fresh w ((w.alloc (.cells #[.slice Tk 5 ck, .slice (some ⟨gl, ol, none⟩) 5 cl] 46)).alloc (.cells #[.slice none 0 0, .slice none 0 0] 46))) := ((Touch.refl _ w).alloc _).alloc _
  clear hck hcl hc5 hl5
  go_enter Try.func44, Try.ntmps44
  go_upto_region 1 with (fail)
  obtain ⟨w1, hw1⟩ : ∃ w1, w1 = (w.alloc (.cells #[.slice Tk 5 ck, .slice (some ⟨gl, ol, none⟩) 5 cl] 46)).alloc (.cells #[.slice none 0 0, .slice none 0 0] 46) := ⟨_, rfl⟩
  rw [← hw1] at HK1 HL1 HB1 HR1 HF1 ⊢
  obtain ⟨gb, hgb⟩ : ∃ gb, gb = w.heap.size := ⟨_, rfl⟩
  rw [← hgb] at HB1 HR1 ⊢
  have HGB := Lib.hid hgb
  have hgw : gb + 1 < w1.heap.size := HR1.out.lt
  have b0 : w1.cell? ⟨gb, 0, none⟩ = some (.slice Tk 5 ck) := HB1.out.cell 0
  have b1 : w1.cell? ⟨gb, 1, none⟩ = some (.slice (some ⟨gl, ol, none⟩) 5 cl) := HB1.out.cell 1
  clear hw1 hgb
  have y3 : w1.cell? ⟨gl, ol + 3, none⟩ = some (.int .i64 x3) := by rw [HX3.out]; exact HL1.out.int_atg 3 (by rw [HL5.out]; decide)
  by_cases h3 : 0 < x3
  · have HW : Hid (Rf.watch c l = l) := by unfold Hid Rf.watch; rw [← HX3.out, if_pos h3]
    clear hx3
    have hr0 : w1.cell? ⟨gb + 1, 0, none⟩ = some (.slice none 0 0) := HR1.out.cell 0
    have hr1 : w1.cell? ⟨gb + 1, 1, none⟩ = some (.slice none 0 0) := HR1.out.cell 1
    have hf0 := HR1.out.frozen 0
    have hf1 := HR1.out.frozen 1
    have HBf := Lib.hid ((HR1.out.set 0 (.slice Tk 5 ck)).set 1 (.slice (some ⟨gl, ol, none⟩) 5 cl))
    have hne : ∀ ad : Addr, ((some ⟨gl, ol, none⟩) : Option Addr) = some ad → ad.block ≠ gb + 1 := HL1.out.blk_ne HR1.out (by decide)
    have HSf := Lib.hid ((HL1.out.setCell (p := ⟨gb + 1, 0, none⟩) hne (.slice Tk 5 ck)).setCell (p := ⟨gb + 1, 1, none⟩) hne (.slice (some ⟨gl, ol, none⟩) 5 cl))
    have HFf : Hid (Fresh w ((w1.setCell ⟨gb + 1, 0, none⟩ (.slice Tk 5 ck)).setCell ⟨gb + 1, 1, none⟩ (.slice (some ⟨gl, ol, none⟩) 5 cl))) :=
      (HF1.out.setCell (fun h => by have := HGB.out; simp at h; omega) _).setCell (fun h => by have := HGB.out; simp at h; omega) _
    clear HL1 HF1 HR1 hne
    go_wp2
    generalize ((w1.setCell ⟨gb + 1, 0, none⟩ (.slice Tk 5 ck)).setCell ⟨gb + 1, 1, none⟩ (.slice (some ⟨gl, ol, none⟩) 5 cl)) = wf at *
    have e0 : wf.cell? ⟨gb + 1, 0, none⟩ = some (.slice Tk 5 ck) := HBf.out.cell 0
    have e1 : wf.cell? ⟨gb + 1, 1, none⟩ = some (.slice (some ⟨gl, ol, none⟩) 5 cl) := HBf.out.cell 1
    exact bodyPost_ret (v := .agg #[.slice Tk 5 ck, .slice (some ⟨gl, ol, none⟩) 5 cl]) (by simp [results, Try.results44, go_sem, e0, e1]) rfl ⟨(some ⟨gl, ol, none⟩), cl, rfl, by rw [HW.out]; exact HSf.out, HFf.out⟩
  · have HW : Hid (Rf.watch c l = Rf.ons c (Rf.offs l []) [3]) := by unfold Hid Rf.watch; rw [← HX3.out, if_neg h3]; rfl
    clear hx3
    go_wp2_with fail
    refine (set15_any Tk _ _ _ ck cl _ _ c l [3] [] _ HC5.out HL5.out ((HK1.out).alloc _) ((HL1.out).alloc _) (Sl.lit intE _ _ (by simp) _ _ rfl _ rfl (by decide)) (Sl.nil _ _) (by simp) (by simp) (by simp) (by simp)).mono ?_
    rintro e w2 ⟨A2, d2, rfl, s2, t2⟩
    have HR2 := Lib.hid (t2.blk ((HR1.out).alloc _) (fun h => h))
    have HF2 := Lib.hid (((HF1.out).alloc _).trans t2 (fun _ _ h => h))
    have HK2 := Lib.hid (((HK1.out).alloc _).touch t2 (fun _ _ h => h))
    have HS2 := Lib.hid s2
    have hgw2 : gb + 1 < w2.heap.size := HR2.out.lt
    clear s2 t2 HK1 HL1 HB1 HR1 HF1 hgw b0 b1
    have hr0 : w2.cell? ⟨gb + 1, 0, none⟩ = some (.slice none 0 0) := HR2.out.cell 0
    have hr1 : w2.cell? ⟨gb + 1, 1, none⟩ = some (.slice none 0 0) := HR2.out.cell 1
    have hf0 := HR2.out.frozen 0
    have hf1 := HR2.out.frozen 1
    have HBf := Lib.hid ((HR2.out.set 0 (.slice Tk 5 ck)).set 1 (.slice A2 5 d2))
    have hne : ∀ ad : Addr, (A2 : Option Addr) = some ad → ad.block ≠ gb + 1 := HS2.out.blk_ne HR2.out (by decide)
    have HSf := Lib.hid ((HS2.out.setCell (p := ⟨gb + 1, 0, none⟩) hne (.slice Tk 5 ck)).setCell (p := ⟨gb + 1, 1, none⟩) hne (.slice A2 5 d2))
    have HFf : Hid (Fresh w ((w2.setCell ⟨gb + 1, 0, none⟩ (.slice Tk 5 ck)).setCell ⟨gb + 1, 1, none⟩ (.slice A2 5 d2))) :=
      (HF2.out.setCell (fun h => by have := HGB.out; simp at h; omega) _).setCell (fun h => by have := HGB.out; simp at h; omega) _
    clear HS2 HF2 HR2 hne
    go_wp2
    generalize ((w2.setCell ⟨gb + 1, 0, none⟩ (.slice Tk 5 ck)).setCell ⟨gb + 1, 1, none⟩ (.slice A2 5 d2)) = wf at *
    have e0 : wf.cell? ⟨gb + 1, 0, none⟩ = some (.slice Tk 5 ck) := HBf.out.cell 0
    have e1 : wf.cell? ⟨gb + 1, 1, none⟩ = some (.slice A2 5 d2) := HBf.out.cell 1
    exact bodyPost_ret (v := .agg #[.slice Tk 5 ck, .slice A2 5 d2]) (by simp [results, Try.results44, go_sem, e0, e1]) rfl ⟨A2, d2, rfl, by rw [HW.out]; exact HSf.out, HFf.out⟩

set_option maxHeartbeats 1000000 in
theorem ref_busy (hc5 : c.length = 5) (hl5 : l.length = 5) (hck : Sl intE w Tk ck c) (hcl : Sl intE w Lf cl l) :
    Calls Try.prog 37 #[.agg #[.slice Tk 5 ck, .slice Lf 5 cl]] w (RPost Tk ck (Rf.busy c l) w) := by
  obtain ⟨gl, ol, rfl⟩ := hcl.some5 (by omega)
  obtain ⟨x2, hx2⟩ : ∃ x2, x2 = l.getD 2 0 := ⟨_, rfl⟩
  have HX2 := Lib.hid hx2
  obtain ⟨x4, hx4⟩ : ∃ x4, x4 = l.getD 4 0 := ⟨_, rfl⟩
  have HX4 := Lib.hid hx4
  have HC5 := Lib.hid hc5
  have HL5 := Lib.hid hl5
  have HK1 := Lib.hid ((hck.alloc (.cells #[.slice Tk 5 ck, .slice (some ⟨gl, ol, none⟩) 5 cl] 46)).alloc (.cells #[.slice none 0 0, .slice none 0 0] 46))
  have HL1 := Lib.hid ((hcl.alloc (.cells #[.slice Tk 5 ck, .slice (some ⟨gl, ol, none⟩) 5 cl] 46)).alloc (.cells #[.slice none 0 0, .slice none 0 0] 46))
  have HB1 := Lib.hid ((Blk.new w 46 [.slice Tk 5 ck, .slice (some ⟨gl, ol, none⟩) 5 cl]).alloc (.cells #[.slice none 0 0, .slice none 0 0] 46))
  have HR1 := Lib.hid (R_at w (.cells #[.slice Tk 5 ck, .slice (some ⟨gl, ol, none⟩) 5 cl] 46))
  have HF1 : Hid (Fresh w ((w.alloc (.cells #[.slice Tk 5 ck, .slice (some ⟨gl, ol, none⟩) 5 cl] 46)).alloc (.cells #[.slice none 0 0, .slice none 0 0] 46))) := ((Touch.refl _ w).alloc _).alloc _
  clear hck hcl hc5 hl5
  go_enter Try.func37, Try.ntmps37
  go_upto_region 1 with (fail)
  obtain ⟨w1, hw1⟩ : ∃ w1, w1 = (w.alloc (.cells #[.slice Tk 5 ck, .slice (some ⟨gl, ol, none⟩) 5 cl] 46)).alloc (.cells #[.slice none 0 0, .slice none 0 0] 46) := ⟨_, rfl⟩
  rw [← hw1] at HK1 HL1 HB1 HR1 HF1 ⊢
  obtain ⟨gb, hgb⟩ : ∃ gb, gb = w.heap.size := ⟨_, rfl⟩
  rw [← hgb] at HB1 HR1 ⊢
  have HGB := Lib.hid hgb
  have hgw : gb + 1 < w1.heap.size := HR1.out.lt
  have b0 : w1.cell? ⟨gb, 0, none⟩ = some (.slice Tk 5 ck) := HB1.out.cell 0
  have b1 : w1.cell? ⟨gb, 1, none⟩ = some (.slice (some ⟨gl, ol, none⟩) 5 cl) := HB1.out.cell 1
  clear hw1 hgb
  have y2 : w1.cell? ⟨gl, ol + 2, none⟩ = some (.int .i64 x2) := by rw [HX2.out]; exact HL1.out.int_atg 2 (by rw [HL5.out]; decide)
  have y4 : w1.cell? ⟨gl, ol + 4, none⟩ = some (.int .i64 x4) := by rw [HX4.out]; exact HL1.out.int_atg 4 (by rw [HL5.out]; decide)
  by_cases h2 : x2 = 0 ∧ x4 = 0
  · have HW : Hid (Rf.busy c l = l) := by unfold Hid Rf.busy; rw [← HX2.out, ← HX4.out, if_pos h2]
    have z2 : (x2 == 0) = true := beq_iff_eq.2 h2.1
    have z4 : (x4 == 0) = true := beq_iff_eq.2 h2.2
    clear hx2 hx4 h2
    have hr0 : w1.cell? ⟨gb + 1, 0, none⟩ = some (.slice none 0 0) := HR1.out.cell 0
    have hr1 : w1.cell? ⟨gb + 1, 1, none⟩ = some (.slice none 0 0) := HR1.out.cell 1
    have hf0 := HR1.out.frozen 0
    have hf1 := HR1.out.frozen 1
    have HBf := Lib.hid ((HR1.out.set 0 (.slice Tk 5 ck)).set 1 (.slice (some ⟨gl, ol, none⟩) 5 cl))
    have hne : ∀ ad : Addr, ((some ⟨gl, ol, none⟩) : Option Addr) = some ad → ad.block ≠ gb + 1 := HL1.out.blk_ne HR1.out (by decide)
    have HSf := Lib.hid ((HL1.out.setCell (p := ⟨gb + 1, 0, none⟩) hne (.slice Tk 5 ck)).setCell (p := ⟨gb + 1, 1, none⟩) hne (.slice (some ⟨gl, ol, none⟩) 5 cl))
    have HFf : Hid (Fresh w ((w1.setCell ⟨gb + 1, 0, none⟩ (.slice Tk 5 ck)).setCell ⟨gb + 1, 1, none⟩ (.slice (some ⟨gl, ol, none⟩) 5 cl))) :=
      (HF1.out.setCell (fun h => by have := HGB.out; simp at h; omega) _).setCell (fun h => by have := HGB.out; simp at h; omega) _
    clear HL1 HF1 HR1 hne
    go_wp2
    generalize ((w1.setCell ⟨gb + 1, 0, none⟩ (.slice Tk 5 ck)).setCell ⟨gb + 1, 1, none⟩ (.slice (some ⟨gl, ol, none⟩) 5 cl)) = wf at *
    have e0 : wf.cell? ⟨gb + 1, 0, none⟩ = some (.slice Tk 5 ck) := HBf.out.cell 0
    have e1 : wf.cell? ⟨gb + 1, 1, none⟩ = some (.slice (some ⟨gl, ol, none⟩) 5 cl) := HBf.out.cell 1
    exact bodyPost_ret (v := .agg #[.slice Tk 5 ck, .slice (some ⟨gl, ol, none⟩) 5 cl]) (by simp [results, Try.results37, go_sem, e0, e1]) rfl ⟨(some ⟨gl, ol, none⟩), cl, rfl, by rw [HW.out]; exact HSf.out, HFf.out⟩
  · have HW : Hid (Rf.busy c l = Rf.watch c (Rf.ons c (Rf.offs l [2, 4]) [1])) := by unfold Hid Rf.busy; rw [← HX2.out, ← HX4.out, if_neg h2]
    have hz : (x2 == 0) = false ∨ ((x2 == 0) = true ∧ (x4 == 0) = false) := by
      by_cases e : x2 = 0
      · exact .inr ⟨beq_iff_eq.2 e, beq_eq_false_iff_ne.2 (fun e4 => h2 ⟨e, e4⟩)⟩
      · exact .inl (beq_eq_false_iff_ne.2 e)
    clear hx2 hx4 h2
    rcases hz with z2 | ⟨z2, z4⟩
    all_goals
      go_wp2_with fail
      refine (set15_any Tk _ _ _ ck cl _ _ c l [1] [2, 4] _ HC5.out HL5.out (((HK1.out).alloc _).alloc _) (((HL1.out).alloc _).alloc _) ((Sl.lit intE _ _ (by simp) _ _ rfl _ rfl (by decide)).alloc _) (Sl.lit intE _ _ (by simp) _ _ rfl _ rfl (by decide)) (by simp) (by simp) (by simp) (by simp)).mono ?_
      rintro e w2 ⟨A2, d2, rfl, s2, t2⟩
      have HR2 := Lib.hid (t2.blk (((HR1.out).alloc _).alloc _) (fun h => h))
      have HF2 := Lib.hid ((((HF1.out).alloc _).alloc _).trans t2 (fun _ _ h => h))
      have HK2 := Lib.hid ((((HK1.out).alloc _).alloc _).touch t2 (fun _ _ h => h))
      have HS2 := Lib.hid s2
      have hgw2 : gb + 1 < w2.heap.size := HR2.out.lt
      clear s2 t2 HK1 HL1 HB1 HR1 HF1 hgw b0 b1
      go_wp2_with fail
      refine (ref_watch Tk A2 ck d2 c (Rf.ons c (Rf.offs l [2, 4]) [1]) w2 HC5.out (by rw [Rf.ons_len, Rf.offs_len]; exact HL5.out) HK2.out HS2.out).mono ?_
      rintro e w3 ⟨A3, d3, rfl, s3, t3⟩
      have HR3 := Lib.hid (t3.blk HR2.out (fun h => h))
      have HF3 := Lib.hid (HF2.out.trans t3 (fun _ _ h => h))
      have HS3 := Lib.hid s3
      have hgw3 : gb + 1 < w3.heap.size := HR3.out.lt
      clear s3 t3 HK2 HS2 HR2 HF2
      have hr0 : w3.cell? ⟨gb + 1, 0, none⟩ = some (.slice none 0 0) := HR3.out.cell 0
      have hr1 : w3.cell? ⟨gb + 1, 1, none⟩ = some (.slice none 0 0) := HR3.out.cell 1
      have hf0 := HR3.out.frozen 0
      have hf1 := HR3.out.frozen 1
      have HBf := Lib.hid ((HR3.out.set 0 (.slice Tk 5 ck)).set 1 (.slice A3 5 d3))
      have hne : ∀ ad : Addr, (A3 : Option Addr) = some ad → ad.block ≠ gb + 1 := HS3.out.blk_ne HR3.out (by decide)
      have HSf := Lib.hid ((HS3.out.setCell (p := ⟨gb + 1, 0, none⟩) hne (.slice Tk 5 ck)).setCell (p := ⟨gb + 1, 1, none⟩) hne (.slice A3 5 d3))
      have HFf : Hid (Fresh w ((w3.setCell ⟨gb + 1, 0, none⟩ (.slice Tk 5 ck)).setCell ⟨gb + 1, 1, none⟩ (.slice A3 5 d3))) :=
        (HF3.out.setCell (fun h => by have := HGB.out; simp at h; omega) _).setCell (fun h => by have := HGB.out; simp at h; omega) _
      clear HS3 HF3 HR3 hne
      go_wp2
      generalize ((w3.setCell ⟨gb + 1, 0, none⟩ (.slice Tk 5 ck)).setCell ⟨gb + 1, 1, none⟩ (.slice A3 5 d3)) = wf at *
      have e0 : wf.cell? ⟨gb + 1, 0, none⟩ = some (.slice Tk 5 ck) := HBf.out.cell 0
      have e1 : wf.cell? ⟨gb + 1, 1, none⟩ = some (.slice A3 5 d3) := HBf.out.cell 1
      exact bodyPost_ret (v := .agg #[.slice Tk 5 ck, .slice A3 5 d3]) (by simp [results, Try.results37, go_sem, e0, e1]) rfl ⟨A3, d3, rfl, by rw [HW.out]; exact HSf.out, HFf.out⟩

set_option maxHeartbeats 1000000 in
theorem ref_polled (idle : Bool) (hc5 : c.length = 5) (hl5 : l.length = 5) (hck : Sl intE w Tk ck c) (hcl : Sl intE w Lf cl l) :
    Calls Try.prog 38 #[.agg #[.slice Tk 5 ck, .slice Lf 5 cl], .bool idle] w (RPost Tk ck (Rf.polled c l idle) w) := by
  cases idle
  · have HC5 := Lib.hid hc5
    have HL5 := Lib.hid hl5
    have HK1 := Lib.hid ((hck.alloc (.cells #[.slice Tk 5 ck, .slice Lf 5 cl] 46)).alloc (.cells #[.slice none 0 0, .slice none 0 0] 46))
    have HL1 := Lib.hid ((hcl.alloc (.cells #[.slice Tk 5 ck, .slice Lf 5 cl] 46)).alloc (.cells #[.slice none 0 0, .slice none 0 0] 46))
    have HB1 := Lib.hid ((Blk.new w 46 [.slice Tk 5 ck, .slice Lf 5 cl]).alloc (.cells #[.slice none 0 0, .slice none 0 0] 46))
    have HR1 := Lib.hid (R_at w (.cells #[.slice Tk 5 ck, .slice Lf 5 cl] 46))
    have HF1 : Hid (Fresh w ((w.alloc (.cells #[.slice Tk 5 ck, .slice Lf 5 cl] 46)).alloc (.cells #[.slice none 0 0, .slice none 0 0] 46))) := ((Touch.refl _ w).alloc _).alloc _
    clear hck hcl hc5 hl5
    go_enter Try.func38, Try.ntmps38
    go_upto_region 1 with (fail)
    obtain ⟨w1, hw1⟩ : ∃ w1, w1 = (w.alloc (.cells #[.slice Tk 5 ck, .slice Lf 5 cl] 46)).alloc (.cells #[.slice none 0 0, .slice none 0 0] 46) := ⟨_, rfl⟩
    rw [← hw1] at HK1 HL1 HB1 HR1 HF1 ⊢
    obtain ⟨gb, hgb⟩ : ∃ gb, gb = w.heap.size := ⟨_, rfl⟩
    rw [← hgb] at HB1 HR1 ⊢
    have HGB := Lib.hid hgb
    have hgw : gb + 1 < w1.heap.size := HR1.out.lt
    have b0 : w1.cell? ⟨gb, 0, none⟩ = some (.slice Tk 5 ck) := HB1.out.cell 0
    have b1 : w1.cell? ⟨gb, 1, none⟩ = some (.slice Lf 5 cl) := HB1.out.cell 1
    clear hw1 hgb
    have HW : Hid (Rf.polled c l false = Rf.watch c (Rf.ons c (Rf.offs l [2, 4]) [1])) := rfl
    go_wp2_with fail
    refine (set15_any Tk Lf _ _ ck cl _ _ c l [1] [2, 4] _ HC5.out HL5.out (((HK1.out).alloc _).alloc _) (((HL1.out).alloc _).alloc _) ((Sl.lit intE _ _ (by simp) _ _ rfl _ rfl (by decide)).alloc _) (Sl.lit intE _ _ (by simp) _ _ rfl _ rfl (by decide)) (by simp) (by simp) (by simp) (by simp)).mono ?_
    rintro e w2 ⟨A2, d2, rfl, s2, t2⟩
    have HR2 := Lib.hid (t2.blk (((HR1.out).alloc _).alloc _) (fun h => h))
    have HF2 := Lib.hid ((((HF1.out).alloc _).alloc _).trans t2 (fun _ _ h => h))
    have HK2 := Lib.hid ((((HK1.out).alloc _).alloc _).touch t2 (fun _ _ h => h))
    have HS2 := Lib.hid s2
    have hgw2 : gb + 1 < w2.heap.size := HR2.out.lt
    clear s2 t2 HK1 HL1 HB1 HR1 HF1 hgw b0 b1
    go_wp2_with fail
    refine (ref_watch Tk A2 ck d2 c (Rf.ons c (Rf.offs l [2, 4]) [1]) w2 HC5.out (by rw [Rf.ons_len, Rf.offs_len]; exact HL5.out) HK2.out HS2.out).mono ?_
    rintro e w3 ⟨A3, d3, rfl, s3, t3⟩
    have HR3 := Lib.hid (t3.blk HR2.out (fun h => h))
    have HF3 := Lib.hid (HF2.out.trans t3 (fun _ _ h => h))
    have HS3 := Lib.hid s3
    have hgw3 : gb + 1 < w3.heap.size := HR3.out.lt
    clear s3 t3 HK2 HS2 HR2 HF2
    have hr0 : w3.cell? ⟨gb + 1, 0, none⟩ = some (.slice none 0 0) := HR3.out.cell 0
    have hr1 : w3.cell? ⟨gb + 1, 1, none⟩ = some (.slice none 0 0) := HR3.out.cell 1
    have hf0 := HR3.out.frozen 0
    have hf1 := HR3.out.frozen 1
    have HBf := Lib.hid ((HR3.out.set 0 (.slice Tk 5 ck)).set 1 (.slice A3 5 d3))
    have hne : ∀ ad : Addr, (A3 : Option Addr) = some ad → ad.block ≠ gb + 1 := HS3.out.blk_ne HR3.out (by decide)
    have HSf := Lib.hid ((HS3.out.setCell (p := ⟨gb + 1, 0, none⟩) hne (.slice Tk 5 ck)).setCell (p := ⟨gb + 1, 1, none⟩) hne (.slice A3 5 d3))
    have HFf : Hid (Fresh w ((w3.setCell ⟨gb + 1, 0, none⟩ (.slice Tk 5 ck)).setCell ⟨gb + 1, 1, none⟩ (.slice A3 5 d3))) :=
      (HF3.out.setCell (fun h => by have := HGB.out; simp at h; omega) _).setCell (fun h => by have := HGB.out; simp at h; omega) _
    clear HS3 HF3 HR3 hne
    go_wp2
    generalize ((w3.setCell ⟨gb + 1, 0, none⟩ (.slice Tk 5 ck)).setCell ⟨gb + 1, 1, none⟩ (.slice A3 5 d3)) = wf at *
    have e0 : wf.cell? ⟨gb + 1, 0, none⟩ = some (.slice Tk 5 ck) := HBf.out.cell 0
    have e1 : wf.cell? ⟨gb + 1, 1, none⟩ = some (.slice A3 5 d3) := HBf.out.cell 1
    exact bodyPost_ret (v := .agg #[.slice Tk 5 ck, .slice A3 5 d3]) (by simp [results, Try.results38, go_sem, e0, e1]) rfl ⟨A3, d3, rfl, by rw [HW.out]; exact HSf.out, HFf.out⟩
  · have HC5 := Lib.hid hc5
    have HL5 := Lib.hid hl5
    have HK1 := Lib.hid ((hck.alloc (.cells #[.slice Tk 5 ck, .slice Lf 5 cl] 46)).alloc (.cells #[.slice none 0 0, .slice none 0 0] 46))
    have HL1 := Lib.hid ((hcl.alloc (.cells #[.slice Tk 5 ck, .slice Lf 5 cl] 46)).alloc (.cells #[.slice none 0 0, .slice none 0 0] 46))
    have HB1 := Lib.hid ((Blk.new w 46 [.slice Tk 5 ck, .slice Lf 5 cl]).alloc (.cells #[.slice none 0 0, .slice none 0 0] 46))
    have HR1 := Lib.hid (R_at w (.cells #[.slice Tk 5 ck, .slice Lf 5 cl] 46))
    have HF1 : Hid (Fresh w ((w.alloc (.cells #[.slice Tk 5 ck, .slice Lf 5 cl] 46)).alloc (.cells #[.slice none 0 0, .slice none 0 0] 46))) := ((Touch.refl _ w).alloc _).alloc _
    clear hck hcl hc5 hl5
    go_enter Try.func38, Try.ntmps38
    go_upto_region 1 with (fail)
    obtain ⟨w1, hw1⟩ : ∃ w1, w1 = (w.alloc (.cells #[.slice Tk 5 ck, .slice Lf 5 cl] 46)).alloc (.cells #[.slice none 0 0, .slice none 0 0] 46) := ⟨_, rfl⟩
    rw [← hw1] at HK1 HL1 HB1 HR1 HF1 ⊢
    obtain ⟨gb, hgb⟩ : ∃ gb, gb = w.heap.size := ⟨_, rfl⟩
    rw [← hgb] at HB1 HR1 ⊢
    have HGB := Lib.hid hgb
    have hgw : gb + 1 < w1.heap.size := HR1.out.lt
    have b0 : w1.cell? ⟨gb, 0, none⟩ = some (.slice Tk 5 ck) := HB1.out.cell 0
    have b1 : w1.cell? ⟨gb, 1, none⟩ = some (.slice Lf 5 cl) := HB1.out.cell 1
    clear hw1 hgb
    have HW : Hid (Rf.polled c l true = Rf.watch c (Rf.ons c (Rf.offs l [1, 4]) [2])) := rfl
    go_wp2_with fail
    refine (set15_any Tk Lf _ _ ck cl _ _ c l [2] [1, 4] _ HC5.out HL5.out (((HK1.out).alloc _).alloc _) (((HL1.out).alloc _).alloc _) ((Sl.lit intE _ _ (by simp) _ _ rfl _ rfl (by decide)).alloc _) (Sl.lit intE _ _ (by simp) _ _ rfl _ rfl (by decide)) (by simp) (by simp) (by simp) (by simp)).mono ?_
    rintro e w2 ⟨A2, d2, rfl, s2, t2⟩
    have HR2 := Lib.hid (t2.blk (((HR1.out).alloc _).alloc _) (fun h => h))
    have HF2 := Lib.hid ((((HF1.out).alloc _).alloc _).trans t2 (fun _ _ h => h))
    have HK2 := Lib.hid ((((HK1.out).alloc _).alloc _).touch t2 (fun _ _ h => h))
    have HS2 := Lib.hid s2
    have hgw2 : gb + 1 < w2.heap.size := HR2.out.lt
    clear s2 t2 HK1 HL1 HB1 HR1 HF1 hgw b0 b1
    go_wp2_with fail
    refine (ref_watch Tk A2 ck d2 c (Rf.ons c (Rf.offs l [1, 4]) [2]) w2 HC5.out (by rw [Rf.ons_len, Rf.offs_len]; exact HL5.out) HK2.out HS2.out).mono ?_
    rintro e w3 ⟨A3, d3, rfl, s3, t3⟩
    have HR3 := Lib.hid (t3.blk HR2.out (fun h => h))
    have HF3 := Lib.hid (HF2.out.trans t3 (fun _ _ h => h))
    have HS3 := Lib.hid s3
    have hgw3 : gb + 1 < w3.heap.size := HR3.out.lt
    clear s3 t3 HK2 HS2 HR2 HF2
    have hr0 : w3.cell? ⟨gb + 1, 0, none⟩ = some (.slice none 0 0) := HR3.out.cell 0
    have hr1 : w3.cell? ⟨gb + 1, 1, none⟩ = some (.slice none 0 0) := HR3.out.cell 1
    have hf0 := HR3.out.frozen 0
    have hf1 := HR3.out.frozen 1
    have HBf := Lib.hid ((HR3.out.set 0 (.slice Tk 5 ck)).set 1 (.slice A3 5 d3))
    have hne : ∀ ad : Addr, (A3 : Option Addr) = some ad → ad.block ≠ gb + 1 := HS3.out.blk_ne HR3.out (by decide)
    have HSf := Lib.hid ((HS3.out.setCell (p := ⟨gb + 1, 0, none⟩) hne (.slice Tk 5 ck)).setCell (p := ⟨gb + 1, 1, none⟩) hne (.slice A3 5 d3))
    have HFf : Hid (Fresh w ((w3.setCell ⟨gb + 1, 0, none⟩ (.slice Tk 5 ck)).setCell ⟨gb + 1, 1, none⟩ (.slice A3 5 d3))) :=
      (HF3.out.setCell (fun h => by have := HGB.out; simp at h; omega) _).setCell (fun h => by have := HGB.out; simp at h; omega) _
    clear HS3 HF3 HR3 hne
    go_wp2
    generalize ((w3.setCell ⟨gb + 1, 0, none⟩ (.slice Tk 5 ck)).setCell ⟨gb + 1, 1, none⟩ (.slice A3 5 d3)) = wf at *
    have e0 : wf.cell? ⟨gb + 1, 0, none⟩ = some (.slice Tk 5 ck) := HBf.out.cell 0
    have e1 : wf.cell? ⟨gb + 1, 1, none⟩ = some (.slice A3 5 d3) := HBf.out.cell 1
    exact bodyPost_ret (v := .agg #[.slice Tk 5 ck, .slice A3 5 d3]) (by simp [results, Try.results38, go_sem, e0, e1]) rfl ⟨A3, d3, rfl, by rw [HW.out]; exact HSf.out, HFf.out⟩

set_option maxHeartbeats 1000000 in
theorem ref_answered (idle : Bool) (hc5 : c.length = 5) (hl5 : l.length = 5) (hck : Sl intE w Tk ck c) (hcl : Sl intE w Lf cl l) :
    Calls Try.prog 39 #[.agg #[.slice Tk 5 ck, .slice Lf 5 cl], .bool idle] w (RPost Tk ck (Rf.answered c l idle) w) := by
  obtain ⟨gl, ol, rfl⟩ := hcl.some5 (by omega)
  obtain ⟨x2, hx2⟩ : ∃ x2, x2 = l.getD 2 0 := ⟨_, rfl⟩
  have HX2 := Lib.hid hx2
  obtain ⟨x4, hx4⟩ : ∃ x4, x4 = l.getD 4 0 := ⟨_, rfl⟩
  have HX4 := Lib.hid hx4
  have HC5 := Lib.hid hc5
  have HL5 := Lib.hid hl5
  have HK1 := Lib.hid ((hck.alloc (.cells #[.slice Tk 5 ck, .slice (some ⟨gl, ol, none⟩) 5 cl] 46)).alloc (.cells #[.slice none 0 0, .slice none 0 0] 46))
  have HL1 := Lib.hid ((hcl.alloc (.cells #[.slice Tk 5 ck, .slice (some ⟨gl, ol, none⟩) 5 cl] 46)).alloc (.cells #[.slice none 0 0, .slice none 0 0] 46))
  have HB1 := Lib.hid ((Blk.new w 46 [.slice Tk 5 ck, .slice (some ⟨gl, ol, none⟩) 5 cl]).alloc (.cells #[.slice none 0 0, .slice none 0 0] 46))
  have HR1 := Lib.hid (R_at w (.cells #[.slice Tk 5 ck, .slice (some ⟨gl, ol, none⟩) 5 cl] 46))
  have HF1 : Hid (Fresh w ((w.alloc (.cells #[.slice Tk 5 ck, .slice (some ⟨gl, ol, none⟩) 5 cl] 46)).alloc (.cells #[.slice none 0 0, .slice none 0 0] 46))) := ((Touch.refl _ w).alloc _).alloc _
  clear hck hcl hc5 hl5
  go_enter Try.func39, Try.ntmps39
  go_upto_region 1 with (fail)
  obtain ⟨w1, hw1⟩ : ∃ w1, w1 = (w.alloc (.cells #[.slice Tk 5 ck, .slice (some ⟨gl, ol, none⟩) 5 cl] 46)).alloc (.cells #[.slice none 0 0, .slice none 0 0] 46) := ⟨_, rfl⟩
  rw [← hw1] at HK1 HL1 HB1 HR1 HF1 ⊢
  obtain ⟨gb, hgb⟩ : ∃ gb, gb = w.heap.size := ⟨_, rfl⟩
  rw [← hgb] at HB1 HR1 ⊢
  have HGB := Lib.hid hgb
  have hgw : gb + 1 < w1.heap.size := HR1.out.lt
  have b0 : w1.cell? ⟨gb, 0, none⟩ = some (.slice Tk 5 ck) := HB1.out.cell 0
  have b1 : w1.cell? ⟨gb, 1, none⟩ = some (.slice (some ⟨gl, ol, none⟩) 5 cl) := HB1.out.cell 1
  clear hw1 hgb
  have y2 : w1.cell? ⟨gl, ol + 2, none⟩ = some (.int .i64 x2) := by rw [HX2.out]; exact HL1.out.int_atg 2 (by rw [HL5.out]; decide)
  have y4 : w1.cell? ⟨gl, ol + 4, none⟩ = some (.int .i64 x4) := by rw [HX4.out]; exact HL1.out.int_atg 4 (by rw [HL5.out]; decide)
  by_cases hi : idle = true ∧ 0 < x2
  · have HW : Hid (Rf.answered c l idle = Rf.ons c (Rf.offs l [2, 3]) [4]) := by unfold Hid Rf.answered; rw [← HX2.out, if_pos hi]
    obtain ⟨rfl, h2⟩ := hi
    clear hx2 hx4
    go_wp2_with fail
    refine (set15_any Tk _ _ _ ck cl _ _ c l [4] [2, 3] _ HC5.out HL5.out (((HK1.out).alloc _).alloc _) (((HL1.out).alloc _).alloc _) ((Sl.lit intE _ _ (by simp) _ _ rfl _ rfl (by decide)).alloc _) (Sl.lit intE _ _ (by simp) _ _ rfl _ rfl (by decide)) (by simp) (by simp) (by simp) (by simp)).mono ?_
    rintro e w2 ⟨A2, d2, rfl, s2, t2⟩
    have HR2 := Lib.hid (t2.blk (((HR1.out).alloc _).alloc _) (fun h => h))
    have HF2 := Lib.hid ((((HF1.out).alloc _).alloc _).trans t2 (fun _ _ h => h))
    have HK2 := Lib.hid ((((HK1.out).alloc _).alloc _).touch t2 (fun _ _ h => h))
    have HS2 := Lib.hid s2
    have hgw2 : gb + 1 < w2.heap.size := HR2.out.lt
    clear s2 t2 HK1 HL1 HB1 HR1 HF1 hgw b0 b1
    have hr0 : w2.cell? ⟨gb + 1, 0, none⟩ = some (.slice none 0 0) := HR2.out.cell 0
    have hr1 : w2.cell? ⟨gb + 1, 1, none⟩ = some (.slice none 0 0) := HR2.out.cell 1
    have hf0 := HR2.out.frozen 0
    have hf1 := HR2.out.frozen 1
    have HBf := Lib.hid ((HR2.out.set 0 (.slice Tk 5 ck)).set 1 (.slice A2 5 d2))
    have hne : ∀ ad : Addr, (A2 : Option Addr) = some ad → ad.block ≠ gb + 1 := HS2.out.blk_ne HR2.out (by decide)
    have HSf := Lib.hid ((HS2.out.setCell (p := ⟨gb + 1, 0, none⟩) hne (.slice Tk 5 ck)).setCell (p := ⟨gb + 1, 1, none⟩) hne (.slice A2 5 d2))
    have HFf : Hid (Fresh w ((w2.setCell ⟨gb + 1, 0, none⟩ (.slice Tk 5 ck)).setCell ⟨gb + 1, 1, none⟩ (.slice A2 5 d2))) :=
      (HF2.out.setCell (fun h => by have := HGB.out; simp at h; omega) _).setCell (fun h => by have := HGB.out; simp at h; omega) _
    clear HS2 HF2 HR2 hne
    go_wp2
    generalize ((w2.setCell ⟨gb + 1, 0, none⟩ (.slice Tk 5 ck)).setCell ⟨gb + 1, 1, none⟩ (.slice A2 5 d2)) = wf at *
    have e0 : wf.cell? ⟨gb + 1, 0, none⟩ = some (.slice Tk 5 ck) := HBf.out.cell 0
    have e1 : wf.cell? ⟨gb + 1, 1, none⟩ = some (.slice A2 5 d2) := HBf.out.cell 1
    exact bodyPost_ret (v := .agg #[.slice Tk 5 ck, .slice A2 5 d2]) (by simp [results, Try.results39, go_sem, e0, e1]) rfl ⟨A2, d2, rfl, by rw [HW.out]; exact HSf.out, HFf.out⟩
  · have hcase : idle = false ∨ (idle = true ∧ ¬ 0 < x2) := by
      cases idle
      · exact .inl rfl
      · exact .inr ⟨rfl, fun e => hi ⟨rfl, e⟩⟩
    by_cases h4 : 0 < x4
    · have HW : Hid (Rf.answered c l idle = l) := by unfold Hid Rf.answered; rw [← HX2.out, ← HX4.out, if_neg hi, if_pos h4]
      clear hx2 hx4 hi
      rcases hcase with rfl | ⟨rfl, h2⟩
      all_goals
        have hr0 : w1.cell? ⟨gb + 1, 0, none⟩ = some (.slice none 0 0) := HR1.out.cell 0
        have hr1 : w1.cell? ⟨gb + 1, 1, none⟩ = some (.slice none 0 0) := HR1.out.cell 1
        have hf0 := HR1.out.frozen 0
        have hf1 := HR1.out.frozen 1
        have HBf := Lib.hid ((HR1.out.set 0 (.slice Tk 5 ck)).set 1 (.slice (some ⟨gl, ol, none⟩) 5 cl))
        have hne : ∀ ad : Addr, ((some ⟨gl, ol, none⟩) : Option Addr) = some ad → ad.block ≠ gb + 1 := HL1.out.blk_ne HR1.out (by decide)
        have HSf := Lib.hid ((HL1.out.setCell (p := ⟨gb + 1, 0, none⟩) hne (.slice Tk 5 ck)).setCell (p := ⟨gb + 1, 1, none⟩) hne (.slice (some ⟨gl, ol, none⟩) 5 cl))
        have HFf : Hid (Fresh w ((w1.setCell ⟨gb + 1, 0, none⟩ (.slice Tk 5 ck)).setCell ⟨gb + 1, 1, none⟩ (.slice (some ⟨gl, ol, none⟩) 5 cl))) :=
          (HF1.out.setCell (fun h => by have := HGB.out; simp at h; omega) _).setCell (fun h => by have := HGB.out; simp at h; omega) _
        clear HL1 HF1 HR1 hne
        go_wp2
        generalize ((w1.setCell ⟨gb + 1, 0, none⟩ (.slice Tk 5 ck)).setCell ⟨gb + 1, 1, none⟩ (.slice (some ⟨gl, ol, none⟩) 5 cl)) = wf at *
        have e0 : wf.cell? ⟨gb + 1, 0, none⟩ = some (.slice Tk 5 ck) := HBf.out.cell 0
        have e1 : wf.cell? ⟨gb + 1, 1, none⟩ = some (.slice (some ⟨gl, ol, none⟩) 5 cl) := HBf.out.cell 1
        exact bodyPost_ret (v := .agg #[.slice Tk 5 ck, .slice (some ⟨gl, ol, none⟩) 5 cl]) (by simp [results, Try.results39, go_sem, e0, e1]) rfl ⟨(some ⟨gl, ol, none⟩), cl, rfl, by rw [HW.out]; exact HSf.out, HFf.out⟩
    · have HW : Hid (Rf.answered c l idle = Rf.ons c (Rf.offs l []) [3]) := by unfold Hid Rf.answered; rw [← HX2.out, ← HX4.out, if_neg hi, if_neg h4]; rfl
      clear hx2 hx4 hi
      rcases hcase with rfl | ⟨rfl, h2⟩
      all_goals
        go_wp2_with fail
        refine (set15_any Tk _ _ _ ck cl _ _ c l [3] [] _ HC5.out HL5.out ((HK1.out).alloc _) ((HL1.out).alloc _) (Sl.lit intE _ _ (by simp) _ _ rfl _ rfl (by decide)) (Sl.nil _ _) (by simp) (by simp) (by simp) (by simp)).mono ?_
        rintro e w2 ⟨A2, d2, rfl, s2, t2⟩
        have HR2 := Lib.hid (t2.blk ((HR1.out).alloc _) (fun h => h))
        have HF2 := Lib.hid (((HF1.out).alloc _).trans t2 (fun _ _ h => h))
        have HK2 := Lib.hid (((HK1.out).alloc _).touch t2 (fun _ _ h => h))
        have HS2 := Lib.hid s2
        have hgw2 : gb + 1 < w2.heap.size := HR2.out.lt
        clear s2 t2 HK1 HL1 HB1 HR1 HF1 hgw b0 b1
        have hr0 : w2.cell? ⟨gb + 1, 0, none⟩ = some (.slice none 0 0) := HR2.out.cell 0
        have hr1 : w2.cell? ⟨gb + 1, 1, none⟩ = some (.slice none 0 0) := HR2.out.cell 1
        have hf0 := HR2.out.frozen 0
        have hf1 := HR2.out.frozen 1
        have HBf := Lib.hid ((HR2.out.set 0 (.slice Tk 5 ck)).set 1 (.slice A2 5 d2))
        have hne : ∀ ad : Addr, (A2 : Option Addr) = some ad → ad.block ≠ gb + 1 := HS2.out.blk_ne HR2.out (by decide)
        have HSf := Lib.hid ((HS2.out.setCell (p := ⟨gb + 1, 0, none⟩) hne (.slice Tk 5 ck)).setCell (p := ⟨gb + 1, 1, none⟩) hne (.slice A2 5 d2))
        have HFf : Hid (Fresh w ((w2.setCell ⟨gb + 1, 0, none⟩ (.slice Tk 5 ck)).setCell ⟨gb + 1, 1, none⟩ (.slice A2 5 d2))) :=
          (HF2.out.setCell (fun h => by have := HGB.out; simp at h; omega) _).setCell (fun h => by have := HGB.out; simp at h; omega) _
        clear HS2 HF2 HR2 hne
        go_wp2
        generalize ((w2.setCell ⟨gb + 1, 0, none⟩ (.slice Tk 5 ck)).setCell ⟨gb + 1, 1, none⟩ (.slice A2 5 d2)) = wf at *
        have e0 : wf.cell? ⟨gb + 1, 0, none⟩ = some (.slice Tk 5 ck) := HBf.out.cell 0
        have e1 : wf.cell? ⟨gb + 1, 1, none⟩ = some (.slice A2 5 d2) := HBf.out.cell 1
        exact bodyPost_ret (v := .agg #[.slice Tk 5 ck, .slice A2 5 d2]) (by simp [results, Try.results39, go_sem, e0, e1]) rfl ⟨A2, d2, rfl, by rw [HW.out]; exact HSf.out, HFf.out⟩
end
end Go.Proofs.Ytppkbljpendkbaa
