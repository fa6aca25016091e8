/-
  polliwoglaw15: step: a call on both.
-/
import Derived.Test.YtppkbljpendkbaaStep15
namespace Go.Proofs.Ytppkbljpendkbaa
open Go.RowKit

/-- What a call makes of the counts. -/
def stepF (l : List Int) (c0 c1 c2 c3 c4 : Int) (kd : Int) (idle : Bool) : List Int :=
  if kd = 1 then Pc.begin_ l c1 c3 else if kd = 2 then Pc.end_ l else if kd = 3 then Tm.start l 0 c0 else if kd = 4 then Tm.stop l 0
  else if kd = 5 then Pc.busy l c1 c3 else if kd = 6 then Pc.polled l c1 c2 c3 idle else if kd = 7 then Pc.answered l c3 c4 idle else if kd = 8 then l else Tm.tick l

section
variable (l : List Int) (c0 c1 c2 c3 c4 : Int)
theorem five {l : List Int} (h : l.length = 5) : ∃ a b c d e, l = [a, b, c, d, e] := by
  match l, h with
  | [a, b, c, d, e], _ => exact ⟨a, b, c, d, e, rfl⟩
theorem clampC {c : Int} (h : 1 ≤ c ∧ c ≤ 41) : max 1 (min c 1048576) = c := by omega
theorem rf_begin (hl : l.length = 5) (hG : GoodC c0 c1 c2 c3 c4) : Rf.ons [c0, c1, c2, c3, c4] (Rf.offs l [2, 4]) [1, 3] = Pc.begin_ l c1 c3 := by
  obtain ⟨x0, x1, x2, x3, x4, rfl⟩ := five hl
  simp [Rf.ons, Rf.offs, Pc.begin_, Pc.end_, Pc.watch, Pc.stops, Tm.stop, Tm.start, Tm.left, clampC hG.2.1, clampC hG.2.2.2.1]
theorem rf_end (hl : l.length = 5) : Rf.ons [c0, c1, c2, c3, c4] (Rf.offs l [1, 2, 3, 4]) [] = Pc.end_ l := by
  obtain ⟨x0, x1, x2, x3, x4, rfl⟩ := five hl
  simp [Rf.ons, Rf.offs, Pc.end_, Pc.stops, Tm.stop]
theorem rf_again (hl : l.length = 5) (hG : GoodC c0 c1 c2 c3 c4) : Rf.ons [c0, c1, c2, c3, c4] (Rf.offs l []) [0] = Tm.start l 0 c0 := by
  obtain ⟨x0, x1, x2, x3, x4, rfl⟩ := five hl
  simp [Rf.ons, Rf.offs, Tm.start, clampC hG.1]
theorem rf_enough (hl : l.length = 5) : Rf.ons [c0, c1, c2, c3, c4] (Rf.offs l [0]) [] = Tm.stop l 0 := by
  obtain ⟨x0, x1, x2, x3, x4, rfl⟩ := five hl
  simp [Rf.ons, Rf.offs, Tm.stop]
theorem rf_watch (hl : l.length = 5) (hG : GoodC c0 c1 c2 c3 c4) : Rf.watch [c0, c1, c2, c3, c4] l = Pc.watch l c3 := by
  obtain ⟨x0, x1, x2, x3, x4, rfl⟩ := five hl
  simp [Rf.watch, Rf.ons, Pc.watch, Tm.start, Tm.left, clampC hG.2.2.2.1]
theorem rf_busy (hl : l.length = 5) (h0 : ∀ x ∈ l, 0 ≤ x ∧ x ≤ 1048576) (hG : GoodC c0 c1 c2 c3 c4) : Rf.busy [c0, c1, c2, c3, c4] l = Pc.busy l c1 c3 := by
  have e : Rf.ons [c0, c1, c2, c3, c4] (Rf.offs l [2, 4]) [1] = Tm.start (Pc.stops l [2, 4]) 1 c1 := by
    obtain ⟨x0, x1, x2, x3, x4, rfl⟩ := five hl
    simp [Rf.ons, Rf.offs, Pc.stops, Tm.stop, Tm.start, clampC hG.2.1]
  unfold Rf.busy Pc.busy
  rw [e, rf_watch _ c0 c1 c2 c3 c4 (by rw [← e, Rf.ons_len, Rf.offs_len]; exact hl) hG]
  have b2 : 0 ≤ l.getD 2 0 := by
    have : l.getD 2 0 = l[2]'(by omega) := by simp [List.getD, hl]
    rw [this]; exact (h0 _ (List.getElem_mem _)).1
  have b4 : 0 ≤ l.getD 4 0 := by
    have : l.getD 4 0 = l[4]'(by omega) := by simp [List.getD, hl]
    rw [this]; exact (h0 _ (List.getElem_mem _)).1
  have t2 : Tm.left l 2 = l.getD 2 0 := rfl
  have t4 : Tm.left l 4 = l.getD 4 0 := rfl
  rw [t2, t4]
  by_cases h : l.getD 2 0 = 0 ∧ l.getD 4 0 = 0
  · rw [if_pos h, if_neg (by omega)]
  · rw [if_neg h, if_pos (by omega)]
theorem rf_polled (idle : Bool) (hl : l.length = 5) (hG : GoodC c0 c1 c2 c3 c4) : Rf.polled [c0, c1, c2, c3, c4] l idle = Pc.polled l c1 c2 c3 idle := by
  cases idle
  · show Rf.watch _ _ = Pc.watch _ _
    rw [rf_watch _ c0 c1 c2 c3 c4 (by rw [Rf.ons_len, Rf.offs_len]; exact hl) hG]
    congr 1
    obtain ⟨x0, x1, x2, x3, x4, rfl⟩ := five hl
    simp [Rf.ons, Rf.offs, Pc.stops, Tm.stop, Tm.start, clampC hG.2.1]
  · show Rf.watch _ _ = Pc.watch _ _
    rw [rf_watch _ c0 c1 c2 c3 c4 (by rw [Rf.ons_len, Rf.offs_len]; exact hl) hG]
    congr 1
    obtain ⟨x0, x1, x2, x3, x4, rfl⟩ := five hl
    simp [Rf.ons, Rf.offs, Pc.stops, Tm.stop, Tm.start, clampC hG.2.2.1]
theorem rf_answered (idle : Bool) (hl : l.length = 5) (hG : GoodC c0 c1 c2 c3 c4) : Rf.answered [c0, c1, c2, c3, c4] l idle = Pc.answered l c3 c4 idle := by
  unfold Rf.answered Pc.answered
  have t2 : Tm.left l 2 = l.getD 2 0 := rfl
  have t4 : Tm.left l 4 = l.getD 4 0 := rfl
  have e1 : Rf.ons [c0, c1, c2, c3, c4] (Rf.offs l [2, 3]) [4] = Tm.start (Pc.stops l [2, 3]) 4 c4 := by
    obtain ⟨x0, x1, x2, x3, x4, rfl⟩ := five hl
    simp [Rf.ons, Rf.offs, Pc.stops, Tm.stop, Tm.start, clampC hG.2.2.2.2.1]
  have e2 : Rf.ons [c0, c1, c2, c3, c4] l [3] = Tm.start l 3 c3 := by
    obtain ⟨x0, x1, x2, x3, x4, rfl⟩ := five hl
    simp [Rf.ons, Tm.start, clampC hG.2.2.2.1]
  rw [t2, t4, e1, e2]
end

def StepPost (gp : Nat) (l : List Int) (c0 c1 c2 c3 c4 : Int) (Tk : Option Addr) (ck : Nat) (w : World) (e : Ending) (w' : World) : Prop :=
  ∃ A d, e = .returned (.tuple #[.agg #[.slice Tk 5 ck, .slice A 5 d], .bool true]) ∧ Pk w' gp l c0 c1 c2 c3 c4 ∧ Sl intE w' A d l ∧ Sl intE w' Tk ck [c0, c1, c2, c3, c4] ∧ Touch (· = gp) w w'

set_option maxRecDepth 10000 in
set_option maxHeartbeats 4000000 in
theorem step15_any (gp : Nat) (l : List Int) (c0 c1 c2 c3 c4 : Int) (Tk Lf : Option Addr) (ck cl : Nat) (kd : Int) (idle : Bool) (w : World) (hP : Pk w gp l c0 c1 c2 c3 c4) (hck : Sl intE w Tk ck [c0, c1, c2, c3, c4]) (hcl : Sl intE w Lf cl l) (hG : GoodC c0 c1 c2 c3 c4) :
    Calls Try.prog 21 #[.pointer (some ⟨gp, 0, none⟩), .agg #[.slice Tk 5 ck, .slice Lf 5 cl], .agg #[.int .i64 kd, .bool idle]] w (StepPost gp (stepF l c0 c1 c2 c3 c4 kd idle) c0 c1 c2 c3 c4 Tk ck w) := by
  have HL5 := Lib.hid hP.1
  have HL0 := Lib.hid hP.2.1
  have HG := Lib.hid hG
  have hgp : gp < w.heap.size := Bk.lt hP
  have HP0 := Lib.hid hP
  have hk0 := hck
  have hl0 := hcl
  obtain ⟨w1, hw1⟩ : ∃ w1, w1 = ((w.alloc (.cells #[.slice Tk 5 ck, .slice Lf 5 cl] 46)).alloc (.cells #[.int .i64 kd, .bool idle] 51)).alloc (.cells #[.slice none 0 0, .slice none 0 0] 46) := ⟨_, rfl⟩
  have HP : Hid (Pk w1 gp l c0 c1 c2 c3 c4) := by rw [hw1]; exact Bk.alloc (Bk.alloc (Bk.alloc hP _) _) _
  have HK : Hid (Sl intE w1 Tk ck [c0, c1, c2, c3, c4]) := by rw [hw1]; exact ((hck.alloc _).alloc _).alloc _
  have HL : Hid (Sl intE w1 Lf cl l) := by rw [hw1]; exact ((hcl.alloc _).alloc _).alloc _
  have HB : Hid (Blk w1 w.heap.size 46 [.slice Tk 5 ck, .slice Lf 5 cl]) := by rw [hw1]; exact ((Blk.new w _ [.slice Tk 5 ck, .slice Lf 5 cl]).alloc _).alloc _
  have HA : Hid (Blk w1 (w.heap.size + 1) 51 [.int .i64 kd, .bool idle]) := by
    have := Blk.new (w.alloc (.cells #[.slice Tk 5 ck, .slice Lf 5 cl] 46)) 51 [.int .i64 kd, .bool idle]
    rw [show (w.alloc (.cells #[.slice Tk 5 ck, .slice Lf 5 cl] 46)).heap.size = w.heap.size + 1 by simp] at this
    rw [hw1]; exact this.alloc _
  have HR : Hid (Blk w1 (w.heap.size + 1 + 1) 46 [.slice none 0 0, .slice none 0 0]) := by
    have := Blk.new ((w.alloc (.cells #[.slice Tk 5 ck, .slice Lf 5 cl] 46)).alloc (.cells #[.int .i64 kd, .bool idle] 51)) 46 [.slice none 0 0, .slice none 0 0]
    rw [show ((w.alloc (.cells #[.slice Tk 5 ck, .slice Lf 5 cl] 46)).alloc (.cells #[.int .i64 kd, .bool idle] 51)).heap.size = w.heap.size + 1 + 1 by simp] at this
    rw [hw1]; exact this
  have HT : Hid (Touch (· = gp) w w1) := by rw [hw1]; exact (((Touch.refl _ w).alloc _).alloc _).alloc _
  clear hP hck hcl hG hk0 hl0
  go_enter Try.func21, Try.ntmps21
  go_upto_region 1 with (fail)
  rw [← hw1]
  obtain ⟨gb, hgb⟩ : ∃ gb, gb = w.heap.size := ⟨_, rfl⟩
  rw [← hgb] at HB HA HR hgp ⊢
  have HGB := Lib.hid hgb
  have hgw : gb + 1 + 1 < w1.heap.size := HR.out.lt
  clear hw1 hgb
  have b0 : w1.cell? ⟨gb, 0, none⟩ = some (.slice Tk 5 ck) := HB.out.cell 0
  have b1 : w1.cell? ⟨gb, 1, none⟩ = some (.slice Lf 5 cl) := HB.out.cell 1
  have a0 : w1.cell? ⟨gb + 1, 0, none⟩ = some (.int .i64 kd) := HA.out.cell 0
  have a1 : w1.cell? ⟨gb + 1, 1, none⟩ = some (.bool idle) := HA.out.cell 1
  by_cases h1 : kd = 1
  · subst h1
    as_aux_lemma =>
    have HW : Hid (stepF l c0 c1 c2 c3 c4 1 idle = Pc.begin_ l c1 c3) := rfl
    go_wp2_with fail
    refine (begin_any gp l c0 c1 c2 c3 c4 w1 HP.out).mono ?_
    rintro e w2 ⟨rfl, p2, t2⟩
    have HP2 := Lib.hid p2
    have HB2 := Lib.hid (t2.blk HB.out (by show ¬ gb = gp; omega))
    have HA2 := Lib.hid (t2.blk HA.out (by show ¬ gb + 1 = gp; omega))
    have HR2 := Lib.hid (t2.blk HR.out (by show ¬ gb + 1 + 1 = gp; omega))
    have HK2 := Lib.hid (HK.out.touch t2 (HK.out.blk_ne HP.out.2.2 (by decide)))
    have HL2 := Lib.hid (HL.out.touch t2 (HL.out.blk_ne HP.out.2.2 (by decide)))
    have HT2 := Lib.hid (HT.out.trans t2 (fun _ _ h => h))
    clear p2 t2 HP HB HA HR HK HL HT b0 b1 a0 a1
    have b0 : w2.cell? ⟨gb, 0, none⟩ = some (.slice Tk 5 ck) := HB2.out.cell 0
    have b1 : w2.cell? ⟨gb, 1, none⟩ = some (.slice Lf 5 cl) := HB2.out.cell 1
    have a1 : w2.cell? ⟨gb + 1, 1, none⟩ = some (.bool idle) := HA2.out.cell 1
    go_wp2_with fail
    refine (ref_begin Tk Lf ck cl [c0, c1, c2, c3, c4] l w2 rfl HL5.out HK2.out HL2.out).mono ?_
    rintro e w3 ⟨A3, d3, rfl, s3, t3⟩
    have HS3 : Hid (Sl intE w3 A3 d3 (Pc.begin_ l c1 c3)) := by rw [← rf_begin l c0 c1 c2 c3 c4 HL5.out HG.out]; exact s3
    have HR3 := Lib.hid (t3.blk HR2.out (fun h => h))
    have HP3 : Hid (Pk w3 gp (Pc.begin_ l c1 c3) c0 c1 c2 c3 c4) := Bk.touch HP2.out t3 (fun h => h)
    have HK3 := Lib.hid (HK2.out.touch t3 (fun _ _ h => h))
    have HT3 := Lib.hid (HT2.out.trans t3 (fun _ _ h => absurd h (fun h => h)))
    clear s3 t3 HP2 HB2 HA2 HR2 HK2 HL2 HT2 b0 b1 a1
    have hr0 : w3.cell? ⟨gb + 1 + 1, 0, none⟩ = some (.slice none 0 0) := HR3.out.cell 0
    have hr1 : w3.cell? ⟨gb + 1 + 1, 1, none⟩ = some (.slice none 0 0) := HR3.out.cell 1
    have hf0 := HR3.out.frozen 0
    have hf1 := HR3.out.frozen 1
    have HBf := Lib.hid ((HR3.out.set 0 (.slice Tk 5 ck)).set 1 (.slice A3 5 d3))
    have HSf := Lib.hid ((HS3.out.setCell (p := ⟨gb + 1 + 1, 0, none⟩) (HS3.out.blk_ne HR3.out (by decide)) (.slice Tk 5 ck)).setCell (p := ⟨gb + 1 + 1, 1, none⟩) (HS3.out.blk_ne HR3.out (by decide)) (.slice A3 5 d3))
    have HKf := Lib.hid ((HK3.out.setCell (p := ⟨gb + 1 + 1, 0, none⟩) (HK3.out.blk_ne HR3.out (by decide)) (.slice Tk 5 ck)).setCell (p := ⟨gb + 1 + 1, 1, none⟩) (HK3.out.blk_ne HR3.out (by decide)) (.slice A3 5 d3))
    have HTf : Hid (Touch (· = gp) w ((w3.setCell ⟨gb + 1 + 1, 0, none⟩ (.slice Tk 5 ck)).setCell ⟨gb + 1 + 1, 1, none⟩ (.slice A3 5 d3))) :=
      (HT3.out.setCell (fun h => by have := HGB.out; simp at h; omega) _).setCell (fun h => by have := HGB.out; simp at h; omega) _
    have HPf : Hid (Pk ((w3.setCell ⟨gb + 1 + 1, 0, none⟩ (.slice Tk 5 ck)).setCell ⟨gb + 1 + 1, 1, none⟩ (.slice A3 5 d3)) gp (Pc.begin_ l c1 c3) c0 c1 c2 c3 c4) :=
      ⟨HP3.out.1, HP3.out.2.1, (HP3.out.2.2.far (p := ⟨gb + 1 + 1, 0, none⟩) (by simp only; omega) _).far (p := ⟨gb + 1 + 1, 1, none⟩) (by simp only; omega) _⟩
    clear HS3 HK3 HT3 HR3 HP3
    go_wp2
    generalize ((w3.setCell ⟨gb + 1 + 1, 0, none⟩ (.slice Tk 5 ck)).setCell ⟨gb + 1 + 1, 1, none⟩ (.slice A3 5 d3)) = wf at *
    have e0 : wf.cell? ⟨gb + 1 + 1, 0, none⟩ = some (.slice Tk 5 ck) := HBf.out.cell 0
    have e1 : wf.cell? ⟨gb + 1 + 1, 1, none⟩ = some (.slice A3 5 d3) := HBf.out.cell 1
    exact bodyPost_ret (v := .tuple #[.agg #[.slice Tk 5 ck, .slice A3 5 d3], .bool true]) (by simp [results, Try.results21, go_sem, e0, e1]) rfl ⟨A3, d3, rfl, by rw [HW.out]; exact HPf.out, by rw [HW.out]; exact HSf.out, HKf.out, HTf.out⟩
  have k1 : (kd == 1) = false := beq_eq_false_iff_ne.2 h1
  by_cases h2 : kd = 2
  · subst h2
    as_aux_lemma =>
    have HW : Hid (stepF l c0 c1 c2 c3 c4 2 idle = Pc.end_ l) := rfl
    go_wp2_with fail
    refine (end_any gp l c0 c1 c2 c3 c4 w1 HP.out).mono ?_
    rintro e w2 ⟨rfl, p2, t2⟩
    have HP2 := Lib.hid p2
    have HB2 := Lib.hid (t2.blk HB.out (by show ¬ gb = gp; omega))
    have HA2 := Lib.hid (t2.blk HA.out (by show ¬ gb + 1 = gp; omega))
    have HR2 := Lib.hid (t2.blk HR.out (by show ¬ gb + 1 + 1 = gp; omega))
    have HK2 := Lib.hid (HK.out.touch t2 (HK.out.blk_ne HP.out.2.2 (by decide)))
    have HL2 := Lib.hid (HL.out.touch t2 (HL.out.blk_ne HP.out.2.2 (by decide)))
    have HT2 := Lib.hid (HT.out.trans t2 (fun _ _ h => h))
    clear p2 t2 HP HB HA HR HK HL HT b0 b1 a0 a1
    have b0 : w2.cell? ⟨gb, 0, none⟩ = some (.slice Tk 5 ck) := HB2.out.cell 0
    have b1 : w2.cell? ⟨gb, 1, none⟩ = some (.slice Lf 5 cl) := HB2.out.cell 1
    have a1 : w2.cell? ⟨gb + 1, 1, none⟩ = some (.bool idle) := HA2.out.cell 1
    go_wp2_with fail
    refine (ref_end Tk Lf ck cl [c0, c1, c2, c3, c4] l w2 rfl HL5.out HK2.out HL2.out).mono ?_
    rintro e w3 ⟨A3, d3, rfl, s3, t3⟩
    have HS3 : Hid (Sl intE w3 A3 d3 (Pc.end_ l)) := by rw [← rf_end l c0 c1 c2 c3 c4 HL5.out]; exact s3
    have HR3 := Lib.hid (t3.blk HR2.out (fun h => h))
    have HP3 : Hid (Pk w3 gp (Pc.end_ l) c0 c1 c2 c3 c4) := Bk.touch HP2.out t3 (fun h => h)
    have HK3 := Lib.hid (HK2.out.touch t3 (fun _ _ h => h))
    have HT3 := Lib.hid (HT2.out.trans t3 (fun _ _ h => absurd h (fun h => h)))
    clear s3 t3 HP2 HB2 HA2 HR2 HK2 HL2 HT2 b0 b1 a1
    have hr0 : w3.cell? ⟨gb + 1 + 1, 0, none⟩ = some (.slice none 0 0) := HR3.out.cell 0
    have hr1 : w3.cell? ⟨gb + 1 + 1, 1, none⟩ = some (.slice none 0 0) := HR3.out.cell 1
    have hf0 := HR3.out.frozen 0
    have hf1 := HR3.out.frozen 1
    have HBf := Lib.hid ((HR3.out.set 0 (.slice Tk 5 ck)).set 1 (.slice A3 5 d3))
    have HSf := Lib.hid ((HS3.out.setCell (p := ⟨gb + 1 + 1, 0, none⟩) (HS3.out.blk_ne HR3.out (by decide)) (.slice Tk 5 ck)).setCell (p := ⟨gb + 1 + 1, 1, none⟩) (HS3.out.blk_ne HR3.out (by decide)) (.slice A3 5 d3))
    have HKf := Lib.hid ((HK3.out.setCell (p := ⟨gb + 1 + 1, 0, none⟩) (HK3.out.blk_ne HR3.out (by decide)) (.slice Tk 5 ck)).setCell (p := ⟨gb + 1 + 1, 1, none⟩) (HK3.out.blk_ne HR3.out (by decide)) (.slice A3 5 d3))
    have HTf : Hid (Touch (· = gp) w ((w3.setCell ⟨gb + 1 + 1, 0, none⟩ (.slice Tk 5 ck)).setCell ⟨gb + 1 + 1, 1, none⟩ (.slice A3 5 d3))) :=
      (HT3.out.setCell (fun h => by have := HGB.out; simp at h; omega) _).setCell (fun h => by have := HGB.out; simp at h; omega) _
    have HPf : Hid (Pk ((w3.setCell ⟨gb + 1 + 1, 0, none⟩ (.slice Tk 5 ck)).setCell ⟨gb + 1 + 1, 1, none⟩ (.slice A3 5 d3)) gp (Pc.end_ l) c0 c1 c2 c3 c4) :=
      ⟨HP3.out.1, HP3.out.2.1, (HP3.out.2.2.far (p := ⟨gb + 1 + 1, 0, none⟩) (by simp only; omega) _).far (p := ⟨gb + 1 + 1, 1, none⟩) (by simp only; omega) _⟩
    clear HS3 HK3 HT3 HR3 HP3
    go_wp2
    generalize ((w3.setCell ⟨gb + 1 + 1, 0, none⟩ (.slice Tk 5 ck)).setCell ⟨gb + 1 + 1, 1, none⟩ (.slice A3 5 d3)) = wf at *
    have e0 : wf.cell? ⟨gb + 1 + 1, 0, none⟩ = some (.slice Tk 5 ck) := HBf.out.cell 0
    have e1 : wf.cell? ⟨gb + 1 + 1, 1, none⟩ = some (.slice A3 5 d3) := HBf.out.cell 1
    exact bodyPost_ret (v := .tuple #[.agg #[.slice Tk 5 ck, .slice A3 5 d3], .bool true]) (by simp [results, Try.results21, go_sem, e0, e1]) rfl ⟨A3, d3, rfl, by rw [HW.out]; exact HPf.out, by rw [HW.out]; exact HSf.out, HKf.out, HTf.out⟩
  have k2 : (kd == 2) = false := beq_eq_false_iff_ne.2 h2
  by_cases h3 : kd = 3
  · subst h3
    as_aux_lemma =>
    have HW : Hid (stepF l c0 c1 c2 c3 c4 3 idle = Tm.start l 0 c0) := rfl
    go_wp2_with fail
    refine (again_any gp l c0 c1 c2 c3 c4 w1 HP.out).mono ?_
    rintro e w2 ⟨rfl, p2, t2⟩
    have HP2 := Lib.hid p2
    have HB2 := Lib.hid (t2.blk HB.out (by show ¬ gb = gp; omega))
    have HA2 := Lib.hid (t2.blk HA.out (by show ¬ gb + 1 = gp; omega))
    have HR2 := Lib.hid (t2.blk HR.out (by show ¬ gb + 1 + 1 = gp; omega))
    have HK2 := Lib.hid (HK.out.touch t2 (HK.out.blk_ne HP.out.2.2 (by decide)))
    have HL2 := Lib.hid (HL.out.touch t2 (HL.out.blk_ne HP.out.2.2 (by decide)))
    have HT2 := Lib.hid (HT.out.trans t2 (fun _ _ h => h))
    clear p2 t2 HP HB HA HR HK HL HT b0 b1 a0 a1
    have b0 : w2.cell? ⟨gb, 0, none⟩ = some (.slice Tk 5 ck) := HB2.out.cell 0
    have b1 : w2.cell? ⟨gb, 1, none⟩ = some (.slice Lf 5 cl) := HB2.out.cell 1
    have a1 : w2.cell? ⟨gb + 1, 1, none⟩ = some (.bool idle) := HA2.out.cell 1
    go_wp2_with fail
    refine (ref_again Tk Lf ck cl [c0, c1, c2, c3, c4] l w2 rfl HL5.out HK2.out HL2.out).mono ?_
    rintro e w3 ⟨A3, d3, rfl, s3, t3⟩
    have HS3 : Hid (Sl intE w3 A3 d3 (Tm.start l 0 c0)) := by rw [← rf_again l c0 c1 c2 c3 c4 HL5.out HG.out]; exact s3
    have HR3 := Lib.hid (t3.blk HR2.out (fun h => h))
    have HP3 : Hid (Pk w3 gp (Tm.start l 0 c0) c0 c1 c2 c3 c4) := Bk.touch HP2.out t3 (fun h => h)
    have HK3 := Lib.hid (HK2.out.touch t3 (fun _ _ h => h))
    have HT3 := Lib.hid (HT2.out.trans t3 (fun _ _ h => absurd h (fun h => h)))
    clear s3 t3 HP2 HB2 HA2 HR2 HK2 HL2 HT2 b0 b1 a1
    have hr0 : w3.cell? ⟨gb + 1 + 1, 0, none⟩ = some (.slice none 0 0) := HR3.out.cell 0
    have hr1 : w3.cell? ⟨gb + 1 + 1, 1, none⟩ = some (.slice none 0 0) := HR3.out.cell 1
    have hf0 := HR3.out.frozen 0
    have hf1 := HR3.out.frozen 1
    have HBf := Lib.hid ((HR3.out.set 0 (.slice Tk 5 ck)).set 1 (.slice A3 5 d3))
    have HSf := Lib.hid ((HS3.out.setCell (p := ⟨gb + 1 + 1, 0, none⟩) (HS3.out.blk_ne HR3.out (by decide)) (.slice Tk 5 ck)).setCell (p := ⟨gb + 1 + 1, 1, none⟩) (HS3.out.blk_ne HR3.out (by decide)) (.slice A3 5 d3))
    have HKf := Lib.hid ((HK3.out.setCell (p := ⟨gb + 1 + 1, 0, none⟩) (HK3.out.blk_ne HR3.out (by decide)) (.slice Tk 5 ck)).setCell (p := ⟨gb + 1 + 1, 1, none⟩) (HK3.out.blk_ne HR3.out (by decide)) (.slice A3 5 d3))
    have HTf : Hid (Touch (· = gp) w ((w3.setCell ⟨gb + 1 + 1, 0, none⟩ (.slice Tk 5 ck)).setCell ⟨gb + 1 + 1, 1, none⟩ (.slice A3 5 d3))) :=
      (HT3.out.setCell (fun h => by have := HGB.out; simp at h; omega) _).setCell (fun h => by have := HGB.out; simp at h; omega) _
    have HPf : Hid (Pk ((w3.setCell ⟨gb + 1 + 1, 0, none⟩ (.slice Tk 5 ck)).setCell ⟨gb + 1 + 1, 1, none⟩ (.slice A3 5 d3)) gp (Tm.start l 0 c0) c0 c1 c2 c3 c4) :=
      ⟨HP3.out.1, HP3.out.2.1, (HP3.out.2.2.far (p := ⟨gb + 1 + 1, 0, none⟩) (by simp only; omega) _).far (p := ⟨gb + 1 + 1, 1, none⟩) (by simp only; omega) _⟩
    clear HS3 HK3 HT3 HR3 HP3
    go_wp2
    generalize ((w3.setCell ⟨gb + 1 + 1, 0, none⟩ (.slice Tk 5 ck)).setCell ⟨gb + 1 + 1, 1, none⟩ (.slice A3 5 d3)) = wf at *
    have e0 : wf.cell? ⟨gb + 1 + 1, 0, none⟩ = some (.slice Tk 5 ck) := HBf.out.cell 0
    have e1 : wf.cell? ⟨gb + 1 + 1, 1, none⟩ = some (.slice A3 5 d3) := HBf.out.cell 1
    exact bodyPost_ret (v := .tuple #[.agg #[.slice Tk 5 ck, .slice A3 5 d3], .bool true]) (by simp [results, Try.results21, go_sem, e0, e1]) rfl ⟨A3, d3, rfl, by rw [HW.out]; exact HPf.out, by rw [HW.out]; exact HSf.out, HKf.out, HTf.out⟩
  have k3 : (kd == 3) = false := beq_eq_false_iff_ne.2 h3
  by_cases h4 : kd = 4
  · subst h4
    as_aux_lemma =>
    have HW : Hid (stepF l c0 c1 c2 c3 c4 4 idle = Tm.stop l 0) := rfl
    go_wp2_with fail
    refine (enough_any gp l c0 c1 c2 c3 c4 w1 HP.out).mono ?_
    rintro e w2 ⟨rfl, p2, t2⟩
    have HP2 := Lib.hid p2
    have HB2 := Lib.hid (t2.blk HB.out (by show ¬ gb = gp; omega))
    have HA2 := Lib.hid (t2.blk HA.out (by show ¬ gb + 1 = gp; omega))
    have HR2 := Lib.hid (t2.blk HR.out (by show ¬ gb + 1 + 1 = gp; omega))
    have HK2 := Lib.hid (HK.out.touch t2 (HK.out.blk_ne HP.out.2.2 (by decide)))
    have HL2 := Lib.hid (HL.out.touch t2 (HL.out.blk_ne HP.out.2.2 (by decide)))
    have HT2 := Lib.hid (HT.out.trans t2 (fun _ _ h => h))
    clear p2 t2 HP HB HA HR HK HL HT b0 b1 a0 a1
    have b0 : w2.cell? ⟨gb, 0, none⟩ = some (.slice Tk 5 ck) := HB2.out.cell 0
    have b1 : w2.cell? ⟨gb, 1, none⟩ = some (.slice Lf 5 cl) := HB2.out.cell 1
    have a1 : w2.cell? ⟨gb + 1, 1, none⟩ = some (.bool idle) := HA2.out.cell 1
    go_wp2_with fail
    refine (ref_enough Tk Lf ck cl [c0, c1, c2, c3, c4] l w2 rfl HL5.out HK2.out HL2.out).mono ?_
    rintro e w3 ⟨A3, d3, rfl, s3, t3⟩
    have HS3 : Hid (Sl intE w3 A3 d3 (Tm.stop l 0)) := by rw [← rf_enough l c0 c1 c2 c3 c4 HL5.out]; exact s3
    have HR3 := Lib.hid (t3.blk HR2.out (fun h => h))
    have HP3 : Hid (Pk w3 gp (Tm.stop l 0) c0 c1 c2 c3 c4) := Bk.touch HP2.out t3 (fun h => h)
    have HK3 := Lib.hid (HK2.out.touch t3 (fun _ _ h => h))
    have HT3 := Lib.hid (HT2.out.trans t3 (fun _ _ h => absurd h (fun h => h)))
    clear s3 t3 HP2 HB2 HA2 HR2 HK2 HL2 HT2 b0 b1 a1
    have hr0 : w3.cell? ⟨gb + 1 + 1, 0, none⟩ = some (.slice none 0 0) := HR3.out.cell 0
    have hr1 : w3.cell? ⟨gb + 1 + 1, 1, none⟩ = some (.slice none 0 0) := HR3.out.cell 1
    have hf0 := HR3.out.frozen 0
    have hf1 := HR3.out.frozen 1
    have HBf := Lib.hid ((HR3.out.set 0 (.slice Tk 5 ck)).set 1 (.slice A3 5 d3))
    have HSf := Lib.hid ((HS3.out.setCell (p := ⟨gb + 1 + 1, 0, none⟩) (HS3.out.blk_ne HR3.out (by decide)) (.slice Tk 5 ck)).setCell (p := ⟨gb + 1 + 1, 1, none⟩) (HS3.out.blk_ne HR3.out (by decide)) (.slice A3 5 d3))
    have HKf := Lib.hid ((HK3.out.setCell (p := ⟨gb + 1 + 1, 0, none⟩) (HK3.out.blk_ne HR3.out (by decide)) (.slice Tk 5 ck)).setCell (p := ⟨gb + 1 + 1, 1, none⟩) (HK3.out.blk_ne HR3.out (by decide)) (.slice A3 5 d3))
    have HTf : Hid (Touch (· = gp) w ((w3.setCell ⟨gb + 1 + 1, 0, none⟩ (.slice Tk 5 ck)).setCell ⟨gb + 1 + 1, 1, none⟩ (.slice A3 5 d3))) :=
      (HT3.out.setCell (fun h => by have := HGB.out; simp at h; omega) _).setCell (fun h => by have := HGB.out; simp at h; omega) _
    have HPf : Hid (Pk ((w3.setCell ⟨gb + 1 + 1, 0, none⟩ (.slice Tk 5 ck)).setCell ⟨gb + 1 + 1, 1, none⟩ (.slice A3 5 d3)) gp (Tm.stop l 0) c0 c1 c2 c3 c4) :=
      ⟨HP3.out.1, HP3.out.2.1, (HP3.out.2.2.far (p := ⟨gb + 1 + 1, 0, none⟩) (by simp only; omega) _).far (p := ⟨gb + 1 + 1, 1, none⟩) (by simp only; omega) _⟩
    clear HS3 HK3 HT3 HR3 HP3
    go_wp2
    generalize ((w3.setCell ⟨gb + 1 + 1, 0, none⟩ (.slice Tk 5 ck)).setCell ⟨gb + 1 + 1, 1, none⟩ (.slice A3 5 d3)) = wf at *
    have e0 : wf.cell? ⟨gb + 1 + 1, 0, none⟩ = some (.slice Tk 5 ck) := HBf.out.cell 0
    have e1 : wf.cell? ⟨gb + 1 + 1, 1, none⟩ = some (.slice A3 5 d3) := HBf.out.cell 1
    exact bodyPost_ret (v := .tuple #[.agg #[.slice Tk 5 ck, .slice A3 5 d3], .bool true]) (by simp [results, Try.results21, go_sem, e0, e1]) rfl ⟨A3, d3, rfl, by rw [HW.out]; exact HPf.out, by rw [HW.out]; exact HSf.out, HKf.out, HTf.out⟩
  have k4 : (kd == 4) = false := beq_eq_false_iff_ne.2 h4
  by_cases h5 : kd = 5
  · subst h5
    as_aux_lemma =>
    have HW : Hid (stepF l c0 c1 c2 c3 c4 5 idle = Pc.busy l c1 c3) := rfl
    go_wp2_with fail
    refine (busy_any gp l c0 c1 c2 c3 c4 w1 HP.out).mono ?_
    rintro e w2 ⟨rfl, p2, t2⟩
    have HP2 := Lib.hid p2
    have HB2 := Lib.hid (t2.blk HB.out (by show ¬ gb = gp; omega))
    have HA2 := Lib.hid (t2.blk HA.out (by show ¬ gb + 1 = gp; omega))
    have HR2 := Lib.hid (t2.blk HR.out (by show ¬ gb + 1 + 1 = gp; omega))
    have HK2 := Lib.hid (HK.out.touch t2 (HK.out.blk_ne HP.out.2.2 (by decide)))
    have HL2 := Lib.hid (HL.out.touch t2 (HL.out.blk_ne HP.out.2.2 (by decide)))
    have HT2 := Lib.hid (HT.out.trans t2 (fun _ _ h => h))
    clear p2 t2 HP HB HA HR HK HL HT b0 b1 a0 a1
    have b0 : w2.cell? ⟨gb, 0, none⟩ = some (.slice Tk 5 ck) := HB2.out.cell 0
    have b1 : w2.cell? ⟨gb, 1, none⟩ = some (.slice Lf 5 cl) := HB2.out.cell 1
    have a1 : w2.cell? ⟨gb + 1, 1, none⟩ = some (.bool idle) := HA2.out.cell 1
    go_wp2_with fail
    refine (ref_busy Tk Lf ck cl [c0, c1, c2, c3, c4] l w2 rfl HL5.out HK2.out HL2.out).mono ?_
    rintro e w3 ⟨A3, d3, rfl, s3, t3⟩
    have HS3 : Hid (Sl intE w3 A3 d3 (Pc.busy l c1 c3)) := by rw [← rf_busy l c0 c1 c2 c3 c4 HL5.out HL0.out HG.out]; exact s3
    have HR3 := Lib.hid (t3.blk HR2.out (fun h => h))
    have HP3 : Hid (Pk w3 gp (Pc.busy l c1 c3) c0 c1 c2 c3 c4) := Bk.touch HP2.out t3 (fun h => h)
    have HK3 := Lib.hid (HK2.out.touch t3 (fun _ _ h => h))
    have HT3 := Lib.hid (HT2.out.trans t3 (fun _ _ h => absurd h (fun h => h)))
    clear s3 t3 HP2 HB2 HA2 HR2 HK2 HL2 HT2 b0 b1 a1
    have hr0 : w3.cell? ⟨gb + 1 + 1, 0, none⟩ = some (.slice none 0 0) := HR3.out.cell 0
    have hr1 : w3.cell? ⟨gb + 1 + 1, 1, none⟩ = some (.slice none 0 0) := HR3.out.cell 1
    have hf0 := HR3.out.frozen 0
    have hf1 := HR3.out.frozen 1
    have HBf := Lib.hid ((HR3.out.set 0 (.slice Tk 5 ck)).set 1 (.slice A3 5 d3))
    have HSf := Lib.hid ((HS3.out.setCell (p := ⟨gb + 1 + 1, 0, none⟩) (HS3.out.blk_ne HR3.out (by decide)) (.slice Tk 5 ck)).setCell (p := ⟨gb + 1 + 1, 1, none⟩) (HS3.out.blk_ne HR3.out (by decide)) (.slice A3 5 d3))
    have HKf := Lib.hid ((HK3.out.setCell (p := ⟨gb + 1 + 1, 0, none⟩) (HK3.out.blk_ne HR3.out (by decide)) (.slice Tk 5 ck)).setCell (p := ⟨gb + 1 + 1, 1, none⟩) (HK3.out.blk_ne HR3.out (by decide)) (.slice A3 5 d3))
    have HTf : Hid (Touch (· = gp) w ((w3.setCell ⟨gb + 1 + 1, 0, none⟩ (.slice Tk 5 ck)).setCell ⟨gb + 1 + 1, 1, none⟩ (.slice A3 5 d3))) :=
      (HT3.out.setCell (fun h => by have := HGB.out; simp at h; omega) _).setCell (fun h => by have := HGB.out; simp at h; omega) _
    have HPf : Hid (Pk ((w3.setCell ⟨gb + 1 + 1, 0, none⟩ (.slice Tk 5 ck)).setCell ⟨gb + 1 + 1, 1, none⟩ (.slice A3 5 d3)) gp (Pc.busy l c1 c3) c0 c1 c2 c3 c4) :=
      ⟨HP3.out.1, HP3.out.2.1, (HP3.out.2.2.far (p := ⟨gb + 1 + 1, 0, none⟩) (by simp only; omega) _).far (p := ⟨gb + 1 + 1, 1, none⟩) (by simp only; omega) _⟩
    clear HS3 HK3 HT3 HR3 HP3
    go_wp2
    generalize ((w3.setCell ⟨gb + 1 + 1, 0, none⟩ (.slice Tk 5 ck)).setCell ⟨gb + 1 + 1, 1, none⟩ (.slice A3 5 d3)) = wf at *
    have e0 : wf.cell? ⟨gb + 1 + 1, 0, none⟩ = some (.slice Tk 5 ck) := HBf.out.cell 0
    have e1 : wf.cell? ⟨gb + 1 + 1, 1, none⟩ = some (.slice A3 5 d3) := HBf.out.cell 1
    exact bodyPost_ret (v := .tuple #[.agg #[.slice Tk 5 ck, .slice A3 5 d3], .bool true]) (by simp [results, Try.results21, go_sem, e0, e1]) rfl ⟨A3, d3, rfl, by rw [HW.out]; exact HPf.out, by rw [HW.out]; exact HSf.out, HKf.out, HTf.out⟩
  have k5 : (kd == 5) = false := beq_eq_false_iff_ne.2 h5
  by_cases h6 : kd = 6
  · subst h6
    as_aux_lemma =>
    have HW : Hid (stepF l c0 c1 c2 c3 c4 6 idle = Pc.polled l c1 c2 c3 idle) := rfl
    go_wp2_with fail
    refine (polled_any gp l c0 c1 c2 c3 c4 w1 idle HP.out).mono ?_
    rintro e w2 ⟨rfl, p2, t2⟩
    have HP2 := Lib.hid p2
    have HB2 := Lib.hid (t2.blk HB.out (by show ¬ gb = gp; omega))
    have HA2 := Lib.hid (t2.blk HA.out (by show ¬ gb + 1 = gp; omega))
    have HR2 := Lib.hid (t2.blk HR.out (by show ¬ gb + 1 + 1 = gp; omega))
    have HK2 := Lib.hid (HK.out.touch t2 (HK.out.blk_ne HP.out.2.2 (by decide)))
    have HL2 := Lib.hid (HL.out.touch t2 (HL.out.blk_ne HP.out.2.2 (by decide)))
    have HT2 := Lib.hid (HT.out.trans t2 (fun _ _ h => h))
    clear p2 t2 HP HB HA HR HK HL HT b0 b1 a0 a1
    have b0 : w2.cell? ⟨gb, 0, none⟩ = some (.slice Tk 5 ck) := HB2.out.cell 0
    have b1 : w2.cell? ⟨gb, 1, none⟩ = some (.slice Lf 5 cl) := HB2.out.cell 1
    have a1 : w2.cell? ⟨gb + 1, 1, none⟩ = some (.bool idle) := HA2.out.cell 1
    go_wp2_with fail
    refine (ref_polled Tk Lf ck cl [c0, c1, c2, c3, c4] l w2 idle rfl HL5.out HK2.out HL2.out).mono ?_
    rintro e w3 ⟨A3, d3, rfl, s3, t3⟩
    have HS3 : Hid (Sl intE w3 A3 d3 (Pc.polled l c1 c2 c3 idle)) := by rw [← rf_polled l c0 c1 c2 c3 c4 idle HL5.out HG.out]; exact s3
    have HR3 := Lib.hid (t3.blk HR2.out (fun h => h))
    have HP3 : Hid (Pk w3 gp (Pc.polled l c1 c2 c3 idle) c0 c1 c2 c3 c4) := Bk.touch HP2.out t3 (fun h => h)
    have HK3 := Lib.hid (HK2.out.touch t3 (fun _ _ h => h))
    have HT3 := Lib.hid (HT2.out.trans t3 (fun _ _ h => absurd h (fun h => h)))
    clear s3 t3 HP2 HB2 HA2 HR2 HK2 HL2 HT2 b0 b1 a1
    have hr0 : w3.cell? ⟨gb + 1 + 1, 0, none⟩ = some (.slice none 0 0) := HR3.out.cell 0
    have hr1 : w3.cell? ⟨gb + 1 + 1, 1, none⟩ = some (.slice none 0 0) := HR3.out.cell 1
    have hf0 := HR3.out.frozen 0
    have hf1 := HR3.out.frozen 1
    have HBf := Lib.hid ((HR3.out.set 0 (.slice Tk 5 ck)).set 1 (.slice A3 5 d3))
    have HSf := Lib.hid ((HS3.out.setCell (p := ⟨gb + 1 + 1, 0, none⟩) (HS3.out.blk_ne HR3.out (by decide)) (.slice Tk 5 ck)).setCell (p := ⟨gb + 1 + 1, 1, none⟩) (HS3.out.blk_ne HR3.out (by decide)) (.slice A3 5 d3))
    have HKf := Lib.hid ((HK3.out.setCell (p := ⟨gb + 1 + 1, 0, none⟩) (HK3.out.blk_ne HR3.out (by decide)) (.slice Tk 5 ck)).setCell (p := ⟨gb + 1 + 1, 1, none⟩) (HK3.out.blk_ne HR3.out (by decide)) (.slice A3 5 d3))
    have HTf : Hid (Touch (· = gp) w ((w3.setCell ⟨gb + 1 + 1, 0, none⟩ (.slice Tk 5 ck)).setCell ⟨gb + 1 + 1, 1, none⟩ (.slice A3 5 d3))) :=
      (HT3.out.setCell (fun h => by have := HGB.out; simp at h; omega) _).setCell (fun h => by have := HGB.out; simp at h; omega) _
    have HPf : Hid (Pk ((w3.setCell ⟨gb + 1 + 1, 0, none⟩ (.slice Tk 5 ck)).setCell ⟨gb + 1 + 1, 1, none⟩ (.slice A3 5 d3)) gp (Pc.polled l c1 c2 c3 idle) c0 c1 c2 c3 c4) :=
      ⟨HP3.out.1, HP3.out.2.1, (HP3.out.2.2.far (p := ⟨gb + 1 + 1, 0, none⟩) (by simp only; omega) _).far (p := ⟨gb + 1 + 1, 1, none⟩) (by simp only; omega) _⟩
    clear HS3 HK3 HT3 HR3 HP3
    go_wp2
    generalize ((w3.setCell ⟨gb + 1 + 1, 0, none⟩ (.slice Tk 5 ck)).setCell ⟨gb + 1 + 1, 1, none⟩ (.slice A3 5 d3)) = wf at *
    have e0 : wf.cell? ⟨gb + 1 + 1, 0, none⟩ = some (.slice Tk 5 ck) := HBf.out.cell 0
    have e1 : wf.cell? ⟨gb + 1 + 1, 1, none⟩ = some (.slice A3 5 d3) := HBf.out.cell 1
    exact bodyPost_ret (v := .tuple #[.agg #[.slice Tk 5 ck, .slice A3 5 d3], .bool true]) (by simp [results, Try.results21, go_sem, e0, e1]) rfl ⟨A3, d3, rfl, by rw [HW.out]; exact HPf.out, by rw [HW.out]; exact HSf.out, HKf.out, HTf.out⟩
  have k6 : (kd == 6) = false := beq_eq_false_iff_ne.2 h6
  by_cases h7 : kd = 7
  · subst h7
    as_aux_lemma =>
    have HW : Hid (stepF l c0 c1 c2 c3 c4 7 idle = Pc.answered l c3 c4 idle) := rfl
    go_wp2_with fail
    refine (answered_any gp l c0 c1 c2 c3 c4 w1 idle HP.out).mono ?_
    rintro e w2 ⟨rfl, p2, t2⟩
    have HP2 := Lib.hid p2
    have HB2 := Lib.hid (t2.blk HB.out (by show ¬ gb = gp; omega))
    have HA2 := Lib.hid (t2.blk HA.out (by show ¬ gb + 1 = gp; omega))
    have HR2 := Lib.hid (t2.blk HR.out (by show ¬ gb + 1 + 1 = gp; omega))
    have HK2 := Lib.hid (HK.out.touch t2 (HK.out.blk_ne HP.out.2.2 (by decide)))
    have HL2 := Lib.hid (HL.out.touch t2 (HL.out.blk_ne HP.out.2.2 (by decide)))
    have HT2 := Lib.hid (HT.out.trans t2 (fun _ _ h => h))
    clear p2 t2 HP HB HA HR HK HL HT b0 b1 a0 a1
    have b0 : w2.cell? ⟨gb, 0, none⟩ = some (.slice Tk 5 ck) := HB2.out.cell 0
    have b1 : w2.cell? ⟨gb, 1, none⟩ = some (.slice Lf 5 cl) := HB2.out.cell 1
    have a1 : w2.cell? ⟨gb + 1, 1, none⟩ = some (.bool idle) := HA2.out.cell 1
    go_wp2_with fail
    refine (ref_answered Tk Lf ck cl [c0, c1, c2, c3, c4] l w2 idle rfl HL5.out HK2.out HL2.out).mono ?_
    rintro e w3 ⟨A3, d3, rfl, s3, t3⟩
    have HS3 : Hid (Sl intE w3 A3 d3 (Pc.answered l c3 c4 idle)) := by rw [← rf_answered l c0 c1 c2 c3 c4 idle HL5.out HG.out]; exact s3
    have HR3 := Lib.hid (t3.blk HR2.out (fun h => h))
    have HP3 : Hid (Pk w3 gp (Pc.answered l c3 c4 idle) c0 c1 c2 c3 c4) := Bk.touch HP2.out t3 (fun h => h)
    have HK3 := Lib.hid (HK2.out.touch t3 (fun _ _ h => h))
    have HT3 := Lib.hid (HT2.out.trans t3 (fun _ _ h => absurd h (fun h => h)))
    clear s3 t3 HP2 HB2 HA2 HR2 HK2 HL2 HT2 b0 b1 a1
    have hr0 : w3.cell? ⟨gb + 1 + 1, 0, none⟩ = some (.slice none 0 0) := HR3.out.cell 0
    have hr1 : w3.cell? ⟨gb + 1 + 1, 1, none⟩ = some (.slice none 0 0) := HR3.out.cell 1
    have hf0 := HR3.out.frozen 0
    have hf1 := HR3.out.frozen 1
    have HBf := Lib.hid ((HR3.out.set 0 (.slice Tk 5 ck)).set 1 (.slice A3 5 d3))
    have HSf := Lib.hid ((HS3.out.setCell (p := ⟨gb + 1 + 1, 0, none⟩) (HS3.out.blk_ne HR3.out (by decide)) (.slice Tk 5 ck)).setCell (p := ⟨gb + 1 + 1, 1, none⟩) (HS3.out.blk_ne HR3.out (by decide)) (.slice A3 5 d3))
    have HKf := Lib.hid ((HK3.out.setCell (p := ⟨gb + 1 + 1, 0, none⟩) (HK3.out.blk_ne HR3.out (by decide)) (.slice Tk 5 ck)).setCell (p := ⟨gb + 1 + 1, 1, none⟩) (HK3.out.blk_ne HR3.out (by decide)) (.slice A3 5 d3))
    have HTf : Hid (Touch (· = gp) w ((w3.setCell ⟨gb + 1 + 1, 0, none⟩ (.slice Tk 5 ck)).setCell ⟨gb + 1 + 1, 1, none⟩ (.slice A3 5 d3))) :=
      (HT3.out.setCell (fun h => by have := HGB.out; simp at h; omega) _).setCell (fun h => by have := HGB.out; simp at h; omega) _
    have HPf : Hid (Pk ((w3.setCell ⟨gb + 1 + 1, 0, none⟩ (.slice Tk 5 ck)).setCell ⟨gb + 1 + 1, 1, none⟩ (.slice A3 5 d3)) gp (Pc.answered l c3 c4 idle) c0 c1 c2 c3 c4) :=
      ⟨HP3.out.1, HP3.out.2.1, (HP3.out.2.2.far (p := ⟨gb + 1 + 1, 0, none⟩) (by simp only; omega) _).far (p := ⟨gb + 1 + 1, 1, none⟩) (by simp only; omega) _⟩
    clear HS3 HK3 HT3 HR3 HP3
    go_wp2
    generalize ((w3.setCell ⟨gb + 1 + 1, 0, none⟩ (.slice Tk 5 ck)).setCell ⟨gb + 1 + 1, 1, none⟩ (.slice A3 5 d3)) = wf at *
    have e0 : wf.cell? ⟨gb + 1 + 1, 0, none⟩ = some (.slice Tk 5 ck) := HBf.out.cell 0
    have e1 : wf.cell? ⟨gb + 1 + 1, 1, none⟩ = some (.slice A3 5 d3) := HBf.out.cell 1
    exact bodyPost_ret (v := .tuple #[.agg #[.slice Tk 5 ck, .slice A3 5 d3], .bool true]) (by simp [results, Try.results21, go_sem, e0, e1]) rfl ⟨A3, d3, rfl, by rw [HW.out]; exact HPf.out, by rw [HW.out]; exact HSf.out, HKf.out, HTf.out⟩
  have k7 : (kd == 7) = false := beq_eq_false_iff_ne.2 h7
  by_cases h8 : kd = 8
  · subst h8
    as_aux_lemma =>
    have HW : Hid (stepF l c0 c1 c2 c3 c4 8 idle = l) := rfl
    go_wp2_with fail
    refine (clone15_any gp l c0 c1 c2 c3 c4 w1 HP.out).mono ?_
    rintro e w2 ⟨rfl, q2, t2⟩
    have HQ2 := Lib.hid q2
    have HB2 := Lib.hid (t2.blk HB.out (fun h => h))
    have HR2 := Lib.hid (t2.blk HR.out (fun h => h))
    have HK2 := Lib.hid (HK.out.touch t2 (fun _ _ h => h))
    have HL2 := Lib.hid (HL.out.touch t2 (fun _ _ h => h))
    have HP2 : Hid (Pk w2 gp l c0 c1 c2 c3 c4) := Bk.touch HP.out t2 (fun h => h)
    have HT2 := Lib.hid (HT.out.trans t2 (fun _ _ h => absurd h (fun h => h)))
    have hgq : gp < w1.heap.size := Bk.lt HP.out
    have hkq : Hid (∀ ad : Addr, Tk = some ad → ¬ ad.block = w1.heap.size) := fun ad e e2 => by have := HK.out.lt ad e; omega
    have hlq : Hid (∀ ad : Addr, Lf = some ad → ¬ ad.block = w1.heap.size) := fun ad e e2 => by have := HL.out.lt ad e; omega
    have htw := HT.out.size
    have HGB2 := HGB.out
    generalize w1.heap.size = gq at *
    clear q2 t2 HP HB HA HR HK HL HT b0 b1 a0 a1
    have b0 : w2.cell? ⟨gb, 0, none⟩ = some (.slice Tk 5 ck) := HB2.out.cell 0
    have b1 : w2.cell? ⟨gb, 1, none⟩ = some (.slice Lf 5 cl) := HB2.out.cell 1
    have HGq : Hid (w.heap.size ≤ gq) := htw
    clear htw HGB2
    go_wp2_with fail
    refine (is15_any gq c0 c1 c2 c3 c4 Tk Lf ck cl l w2 HQ2.out HL2.out).mono ?_
    rintro e w4 ⟨rfl, t4⟩
    have HQ4 : Hid (Pk w4 gq l c0 c1 c2 c3 c4) := Bk.touch HQ2.out t4 (fun h => h)
    have HB4 := Lib.hid (t4.blk HB2.out (fun h => h))
    have HR4 := Lib.hid (t4.blk HR2.out (fun h => h))
    have HK4 := Lib.hid (HK2.out.touch t4 (fun _ _ h => h))
    have HL4 := Lib.hid (HL2.out.touch t4 (fun _ _ h => h))
    have HP4 : Hid (Pk w4 gp l c0 c1 c2 c3 c4) := Bk.touch HP2.out t4 (fun h => h)
    have HT4 := Lib.hid (HT2.out.trans t4 (fun _ _ h => absurd h (fun h => h)))
    clear t4 HQ2 HB2 HR2 HK2 HL2 HP2 HT2 b0 b1
    go_wp2_with fail
    refine (begin_any gq l c0 c1 c2 c3 c4 w4 HQ4.out).mono ?_
    rintro e w5 ⟨rfl, q5, t5⟩
    have HQ5 := Lib.hid q5
    have HB5 := Lib.hid (t5.blk HB4.out (by show ¬ gb = gq; omega))
    have HR5 := Lib.hid (t5.blk HR4.out (by show ¬ gb + 1 + 1 = gq; omega))
    have HK5 := Lib.hid (HK4.out.touch t5 hkq.out)
    have HL5' := Lib.hid (HL4.out.touch t5 hlq.out)
    have HP5 : Hid (Pk w5 gp l c0 c1 c2 c3 c4) := Bk.touch HP4.out t5 (by show ¬ gp = gq; omega)
    have HT5 := Lib.hid (HT4.out.trans t5 (fun k hk e => by have e2 : k = gq := e; have := HGq.out; omega))
    clear q5 t5 HQ4 HB4 HR4 HK4 HL4 HP4 HT4
    go_wp2_with fail
    refine (tick_any gq _ (by decide) _ _ w5 HQ5.out).mono ?_
    rintro e w3 ⟨A6, ca6, rfl, s6, q6, t6⟩
    have HB3 := Lib.hid (t6.blk HB5.out (by show ¬ gb = gq; omega))
    have HR3 := Lib.hid (t6.blk HR5.out (by show ¬ gb + 1 + 1 = gq; omega))
    have HK3 := Lib.hid (HK5.out.touch t6 hkq.out)
    have HS3 := Lib.hid (HL5'.out.touch t6 hlq.out)
    have HP3 : Hid (Pk w3 gp l c0 c1 c2 c3 c4) := Bk.touch HP5.out t6 (by show ¬ gp = gq; omega)
    have HT3 := Lib.hid (HT5.out.trans t6 (fun k hk e => by have e2 : k = gq := e; have := HGq.out; omega))
    clear s6 q6 t6 HQ5 HB5 HR5 HK5 HL5' HP5 HT5
    have b0 : w3.cell? ⟨gb, 0, none⟩ = some (.slice Tk 5 ck) := HB3.out.cell 0
    have b1 : w3.cell? ⟨gb, 1, none⟩ = some (.slice Lf 5 cl) := HB3.out.cell 1
    have hr0 : w3.cell? ⟨gb + 1 + 1, 0, none⟩ = some (.slice none 0 0) := HR3.out.cell 0
    have hr1 : w3.cell? ⟨gb + 1 + 1, 1, none⟩ = some (.slice none 0 0) := HR3.out.cell 1
    have hf0 := HR3.out.frozen 0
    have hf1 := HR3.out.frozen 1
    have HBf := Lib.hid ((HR3.out.set 0 (.slice Tk 5 ck)).set 1 (.slice Lf 5 cl))
    have HSf := Lib.hid ((HS3.out.setCell (p := ⟨gb + 1 + 1, 0, none⟩) (HS3.out.blk_ne HR3.out (by decide)) (.slice Tk 5 ck)).setCell (p := ⟨gb + 1 + 1, 1, none⟩) (HS3.out.blk_ne HR3.out (by decide)) (.slice Lf 5 cl))
    have HKf := Lib.hid ((HK3.out.setCell (p := ⟨gb + 1 + 1, 0, none⟩) (HK3.out.blk_ne HR3.out (by decide)) (.slice Tk 5 ck)).setCell (p := ⟨gb + 1 + 1, 1, none⟩) (HK3.out.blk_ne HR3.out (by decide)) (.slice Lf 5 cl))
    have HTf : Hid (Touch (· = gp) w ((w3.setCell ⟨gb + 1 + 1, 0, none⟩ (.slice Tk 5 ck)).setCell ⟨gb + 1 + 1, 1, none⟩ (.slice Lf 5 cl))) :=
      (HT3.out.setCell (fun h => by have := HGB.out; simp at h; omega) _).setCell (fun h => by have := HGB.out; simp at h; omega) _
    have HPf : Hid (Pk ((w3.setCell ⟨gb + 1 + 1, 0, none⟩ (.slice Tk 5 ck)).setCell ⟨gb + 1 + 1, 1, none⟩ (.slice Lf 5 cl)) gp l c0 c1 c2 c3 c4) :=
      ⟨HP3.out.1, HP3.out.2.1, (HP3.out.2.2.far (p := ⟨gb + 1 + 1, 0, none⟩) (by simp only; omega) _).far (p := ⟨gb + 1 + 1, 1, none⟩) (by simp only; omega) _⟩
    clear HB3 HS3 HK3 HT3 HR3 HP3
    go_wp2
    generalize ((w3.setCell ⟨gb + 1 + 1, 0, none⟩ (.slice Tk 5 ck)).setCell ⟨gb + 1 + 1, 1, none⟩ (.slice Lf 5 cl)) = wf at *
    have e0 : wf.cell? ⟨gb + 1 + 1, 0, none⟩ = some (.slice Tk 5 ck) := HBf.out.cell 0
    have e1 : wf.cell? ⟨gb + 1 + 1, 1, none⟩ = some (.slice Lf 5 cl) := HBf.out.cell 1
    exact bodyPost_ret (v := .tuple #[.agg #[.slice Tk 5 ck, .slice Lf 5 cl], .bool true]) (by simp [results, Try.results21, go_sem, e0, e1]) rfl ⟨Lf, cl, rfl, by rw [HW.out]; exact HPf.out, by rw [HW.out]; exact HSf.out, HKf.out, HTf.out⟩
  have k8 : (kd == 8) = false := beq_eq_false_iff_ne.2 h8
  have HW : Hid (stepF l c0 c1 c2 c3 c4 kd idle = Tm.tick l) := by unfold Hid stepF; rw [if_neg h1, if_neg h2, if_neg h3, if_neg h4, if_neg h5, if_neg h6, if_neg h7, if_neg h8]
  clear h1 h2 h3 h4 h5 h6 h7 h8
  go_wp2_with fail
  refine (ref_tick Tk Lf ck cl l w1 HL5.out HL0.out HL.out).mono ?_
  rintro e w2 ⟨A, d, B, d2, rfl, sA, sB, t2⟩
  have SA := Lib.hid sA
  have SB := Lib.hid sB
  have HR2 := Lib.hid (t2.blk HR.out (fun h => h))
  have HK2 := Lib.hid (HK.out.touch t2 (fun _ _ h => h))
  have HP2 : Hid (Pk w2 gp l c0 c1 c2 c3 c4) := Bk.touch HP.out t2 (fun h => h)
  have HT2 := Lib.hid (HT.out.trans t2 (fun _ _ h => absurd h (fun h => h)))
  have hgw2 : gb + 1 + 1 < w2.heap.size := HR2.out.lt
  clear sA sB t2 HP HB HA HR HK HL HT b0 b1 a0 a1
  go_upto_region 31 with (fail)
  have HBy := Lib.hid (Blk.new w2 46 [.slice Tk 5 ck, .slice A 5 d])
  have SAy := Lib.hid (SA.out.alloc (.cells #[.slice Tk 5 ck, .slice A 5 d] 46))
  have SBy := Lib.hid (SB.out.alloc (.cells #[.slice Tk 5 ck, .slice A 5 d] 46))
  have HRy := Lib.hid (HR2.out.alloc (.cells #[.slice Tk 5 ck, .slice A 5 d] 46))
  have HKy := Lib.hid (HK2.out.alloc (.cells #[.slice Tk 5 ck, .slice A 5 d] 46))
  have HPy : Hid (Pk (w2.alloc (.cells #[.slice Tk 5 ck, .slice A 5 d] 46)) gp l c0 c1 c2 c3 c4) := Bk.alloc HP2.out _
  have HTy := Lib.hid (HT2.out.alloc (.cells #[.slice Tk 5 ck, .slice A 5 d] 46))
  have hgy : gp < w2.heap.size := Bk.lt HP2.out
  clear SA SB HR2 HK2 HP2 HT2
  generalize (w2.alloc (.cells #[.slice Tk 5 ck, .slice A 5 d] 46)) = wy at *
  generalize w2.heap.size = gy at *
  have HRf := Lib.hid (HRy.out.frozen 0)
  have hdt : decide (Tm.over l = Tm.over l) = true := decide_eq_true rfl
  go_region_held3 (fun wx => wx.cell? ⟨gy, 0, none⟩ = some (.slice Tk 5 ck) ∧ wx.cell? ⟨gy, 1, none⟩ = some (.slice A 5 d))
    (first
      | exact ⟨HBy.out.cell 0, HBy.out.cell 1⟩
      | exact ⟨HB6.cell 0, HB6.cell 1⟩
      | exact ⟨HB7.cell 0, HB7.cell 1⟩
      | exact ⟨HB8.cell 0, HB8.cell 1⟩)
    (first
     | (go_at_call 12; refine (tick_any gp 37 (by decide) l [c0, c1, c2, c3, c4] _ (by exact HPy.out)).mono ?_; rintro e w6 ⟨A6, ca6, rfl, s6, p6, t6⟩;
        have HB6 : Blk w6 gy 46 [.slice Tk 5 ck, .slice A 5 d] := t6.blk HBy.out (by show ¬ gy = gp; omega);
        have HR6 : Blk w6 (gb + 1 + 1) 46 [.slice none 0 0, .slice none 0 0] := t6.blk HRy.out (by show ¬ gb + 1 + 1 = gp; omega))
     | (go_at_call 41; refine (same_any A6 B ca6 d2 (Tm.over l) (Tm.over l) _ (by exact s6.rd) (by exact (Sl.touch (S := (· = gp)) SBy.out.drew t6 (SBy.out.blk_ne HPy.out.2.2 (by decide))).rd)).mono ?_; rintro e w7 ⟨rfl, t7⟩;
        have HB7 : Blk w7 gy 46 [.slice Tk 5 ck, .slice A 5 d] := t7.blk HB6 (fun h => h);
        have HR7 : Blk w7 (gb + 1 + 1) 46 [.slice none 0 0, .slice none 0 0] := t7.blk HR6 (fun h => h);
        have r70 : w7.cell? ⟨gb + 1 + 1, 0, none⟩ = some (.slice none 0 0) := HR7.cell 0;
        have r71 : w7.cell? ⟨gb + 1 + 1, 1, none⟩ = some (.slice none 0 0) := HR7.cell 1;
        have f70 := HR7.frozen 0;
        have f71 := HR7.frozen 1;
        have HB8 : Blk ((w7.setCell ⟨gb + 1 + 1, 0, none⟩ (.slice Tk 5 ck)).setCell ⟨gb + 1 + 1, 1, none⟩ (.slice A 5 d)) gy 46 [.slice Tk 5 ck, .slice A 5 d] := (HB7.far (p := ⟨gb + 1 + 1, 0, none⟩) (by show gy ≠ gb + 1 + 1; omega) _).far (p := ⟨gb + 1 + 1, 1, none⟩) (by show gy ≠ gb + 1 + 1; omega) _))
  all_goals
    have SA6 := (Sl.touch (S := (· = gp)) SAy.out.drew t6 (SAy.out.blk_ne HPy.out.2.2 (by decide)))
    have SA7 := SA6.touch t7 (fun _ _ h => h)
    have SK6 := (Sl.touch (S := (· = gp)) HKy.out.drew t6 (HKy.out.blk_ne HPy.out.2.2 (by decide)))
    have SK7 := SK6.touch t7 (fun _ _ h => h)
    have P7 : Pk w7 gp (Tm.tick l) c0 c1 c2 c3 c4 := Bk.touch p6 t7 (fun h => h)
    have T7 := ((HTy.out.drew).trans t6 (fun _ _ h => h)).trans t7 (fun _ _ h => absurd h (fun h => h))
    have HBf := Lib.hid ((HR7.set 0 (.slice Tk 5 ck)).set 1 (.slice A 5 d))
    have HSf := Lib.hid ((SA7.setCell (p := ⟨gb + 1 + 1, 0, none⟩) (SA7.blk_ne HR7 (by decide)) (.slice Tk 5 ck)).setCell (p := ⟨gb + 1 + 1, 1, none⟩) (SA7.blk_ne HR7 (by decide)) (.slice A 5 d))
    have HKf := Lib.hid ((SK7.setCell (p := ⟨gb + 1 + 1, 0, none⟩) (SK7.blk_ne HR7 (by decide)) (.slice Tk 5 ck)).setCell (p := ⟨gb + 1 + 1, 1, none⟩) (SK7.blk_ne HR7 (by decide)) (.slice A 5 d))
    have HTf : Hid (Touch (· = gp) w ((w7.setCell ⟨gb + 1 + 1, 0, none⟩ (.slice Tk 5 ck)).setCell ⟨gb + 1 + 1, 1, none⟩ (.slice A 5 d))) :=
      (T7.setCell (fun h => by have := HGB.out; simp at h; omega) _).setCell (fun h => by have := HGB.out; simp at h; omega) _
    have HPf : Hid (Pk ((w7.setCell ⟨gb + 1 + 1, 0, none⟩ (.slice Tk 5 ck)).setCell ⟨gb + 1 + 1, 1, none⟩ (.slice A 5 d)) gp (Tm.tick l) c0 c1 c2 c3 c4) :=
      ⟨P7.1, P7.2.1, (P7.2.2.far (p := ⟨gb + 1 + 1, 0, none⟩) (by simp only; omega) _).far (p := ⟨gb + 1 + 1, 1, none⟩) (by simp only; omega) _⟩
    clear SA6 SA7 SK6 SK7 P7 T7 HR7 HB7 HB8 HR6 HB6 t7 t6 p6 s6 r70 r71 f70 f71
    generalize ((w7.setCell ⟨gb + 1 + 1, 0, none⟩ (.slice Tk 5 ck)).setCell ⟨gb + 1 + 1, 1, none⟩ (.slice A 5 d)) = wf at *
    go_wp2
    have e0 : wf.cell? ⟨gb + 1 + 1, 0, none⟩ = some (.slice Tk 5 ck) := HBf.out.cell 0
    have e1 : wf.cell? ⟨gb + 1 + 1, 1, none⟩ = some (.slice A 5 d) := HBf.out.cell 1
    exact bodyPost_ret (v := .tuple #[.agg #[.slice Tk 5 ck, .slice A 5 d], .bool true]) (by simp [results, Try.results21, go_sem, e0, e1]) rfl ⟨A, d, rfl, by rw [HW.out]; exact HPf.out, by rw [HW.out]; exact HSf.out, HKf.out, HTf.out⟩
end Go.Proofs.Ytppkbljpendkbaa
