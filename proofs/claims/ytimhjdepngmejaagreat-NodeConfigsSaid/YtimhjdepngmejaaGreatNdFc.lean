/-
  polliwogref16.Check at any config with five ticks. No conditions.
-/
import Derived.Test.YtimhjdepngmejaaGreatNdF
import Derived.Deep.Cut
namespace Go.Proofs.YtimhjdepngmejaaGreat
open Go.RowKit
set_option maxRecDepth 20000

/-- May a config be? -/
def Nd.rok (x0 x1 x2 x3 x4 x5 : Int) (t : Bool) : Bool := Nd.inb x0 16 && Nd.inb x1 64 && Nd.inb x2 256 && Nd.inb x3 64 && Nd.inb x4 256 && (decide (0 ≤ x5) && decide (x5 ≤ 16777215)) && t
set_option maxHeartbeats 4000000 in
theorem rcheck16 (x0 x1 x2 x3 x4 x5 : Int) (g o c : Nat) (c0 c1 c2 c3 c4 : Int) (w : World) (h : Rd intE w (some ⟨g, o, none⟩) c [c0, c1, c2, c3, c4]) :
    Calls Tryz.prog 9 #[.agg #[.int .i64 x0, .int .i64 x1, .int .i64 x2, .int .i64 x3, .int .i64 x4, .int .i64 x5, .slice (some ⟨g, o, none⟩) 5 c]] w fun e w' => e = .returned (.bool (Nd.rok x0 x1 x2 x3 x4 x5 (Nd.okP c0 c1 c2 c3 c4))) ∧ Fresh w w' := by
  have HC : Hid (∀ W, Fresh w W → Calls Tryz.prog 27 #[.slice (some ⟨g, o, none⟩) 5 c] W fun e w' => e = .returned (.bool (Nd.okP c0 c1 c2 c3 c4)) ∧ Fresh W w') := fun W hW => rcheck15 g o c c0 c1 c2 c3 c4 W (h.touch hW (fun _ _ _ e => e))
  obtain ⟨T, hT⟩ : ∃ T, Nd.okP c0 c1 c2 c3 c4 = T := ⟨_, rfl⟩
  rw [hT] at HC ⊢
  clear hT h
  obtain ⟨B, hB⟩ : ∃ B, Nd.rok x0 x1 x2 x3 x4 x5 T = B := ⟨_, rfl⟩
  have HB := Lib.hid hB
  rw [hB]
  clear hB
  go_enter Tryz.func9, Tryz.ntmps9
  go_upto_region 1 with (fail)
  obtain ⟨w0, hw0⟩ : ∃ w0, w0 = w.alloc (.cells #[.int .i64 x0, .int .i64 x1, .int .i64 x2, .int .i64 x3, .int .i64 x4, .int .i64 x5, .slice (some ⟨g, o, none⟩) 5 c] 24) := ⟨_, rfl⟩
  obtain ⟨b, hb⟩ : ∃ b, b = w.heap.size := ⟨_, rfl⟩
  have HBK : Hid (Blk w0 b 24 [.int .i64 x0, .int .i64 x1, .int .i64 x2, .int .i64 x3, .int .i64 x4, .int .i64 x5, .slice (some ⟨g, o, none⟩) 5 c]) := by rw [hw0, hb]; exact Blk.new w _ _
  have HF : Hid (Fresh w w0) := by rw [hw0]; exact (Touch.refl _ _).alloc _
  rw [← hw0, ← hb]
  clear hw0 hb
  have d0 : w0.cell? ⟨b, 0, none⟩ = some (.int .i64 x0) := HBK.out.cell 0
  have d1 : w0.cell? ⟨b, 1, none⟩ = some (.int .i64 x1) := HBK.out.cell 1
  have d2 : w0.cell? ⟨b, 2, none⟩ = some (.int .i64 x2) := HBK.out.cell 2
  have d3 : w0.cell? ⟨b, 3, none⟩ = some (.int .i64 x3) := HBK.out.cell 3
  have d4 : w0.cell? ⟨b, 4, none⟩ = some (.int .i64 x4) := HBK.out.cell 4
  have d5 : w0.cell? ⟨b, 5, none⟩ = some (.int .i64 x5) := HBK.out.cell 5
  have d6 : w0.cell? ⟨b, 6, none⟩ = some (.slice (some ⟨g, o, none⟩) 5 c) := HBK.out.cell 6
  by_cases n0 : x0 < 1
  · have hb : B = false := by
      rw [← HB.out]
      refine Bool.eq_false_iff.2 fun hc => ?_
      simp only [Nd.rok, Nd.inb, Bool.and_eq_true, decide_eq_true_eq] at hc
      omega
    subst hb
    go_wp2_with fail
    go_ret
    exact ⟨rfl, HF.out⟩
  by_cases n1 : 16 < x0
  · have hb : B = false := by
      rw [← HB.out]
      refine Bool.eq_false_iff.2 fun hc => ?_
      simp only [Nd.rok, Nd.inb, Bool.and_eq_true, decide_eq_true_eq] at hc
      omega
    subst hb
    go_wp2_with fail
    go_ret
    exact ⟨rfl, HF.out⟩
  by_cases n2 : x1 < 1
  · have hb : B = false := by
      rw [← HB.out]
      refine Bool.eq_false_iff.2 fun hc => ?_
      simp only [Nd.rok, Nd.inb, Bool.and_eq_true, decide_eq_true_eq] at hc
      omega
    subst hb
    go_wp2_with fail
    go_ret
    exact ⟨rfl, HF.out⟩
  by_cases n3 : 64 < x1
  · have hb : B = false := by
      rw [← HB.out]
      refine Bool.eq_false_iff.2 fun hc => ?_
      simp only [Nd.rok, Nd.inb, Bool.and_eq_true, decide_eq_true_eq] at hc
      omega
    subst hb
    go_wp2_with fail
    go_ret
    exact ⟨rfl, HF.out⟩
  by_cases n4 : x2 < 1
  · have hb : B = false := by
      rw [← HB.out]
      refine Bool.eq_false_iff.2 fun hc => ?_
      simp only [Nd.rok, Nd.inb, Bool.and_eq_true, decide_eq_true_eq] at hc
      omega
    subst hb
    go_wp2_with fail
    go_ret
    exact ⟨rfl, HF.out⟩
  by_cases n5 : 256 < x2
  · have hb : B = false := by
      rw [← HB.out]
      refine Bool.eq_false_iff.2 fun hc => ?_
      simp only [Nd.rok, Nd.inb, Bool.and_eq_true, decide_eq_true_eq] at hc
      omega
    subst hb
    go_wp2_with fail
    go_ret
    exact ⟨rfl, HF.out⟩
  by_cases n6 : x3 < 1
  · have hb : B = false := by
      rw [← HB.out]
      refine Bool.eq_false_iff.2 fun hc => ?_
      simp only [Nd.rok, Nd.inb, Bool.and_eq_true, decide_eq_true_eq] at hc
      omega
    subst hb
    go_wp2_with fail
    go_ret
    exact ⟨rfl, HF.out⟩
  by_cases n7 : 64 < x3
  · have hb : B = false := by
      rw [← HB.out]
      refine Bool.eq_false_iff.2 fun hc => ?_
      simp only [Nd.rok, Nd.inb, Bool.and_eq_true, decide_eq_true_eq] at hc
      omega
    subst hb
    go_wp2_with fail
    go_ret
    exact ⟨rfl, HF.out⟩
  by_cases n8 : x4 < 1
  · have hb : B = false := by
      rw [← HB.out]
      refine Bool.eq_false_iff.2 fun hc => ?_
      simp only [Nd.rok, Nd.inb, Bool.and_eq_true, decide_eq_true_eq] at hc
      omega
    subst hb
    go_wp2_with fail
    go_ret
    exact ⟨rfl, HF.out⟩
  by_cases n9 : 256 < x4
  · have hb : B = false := by
      rw [← HB.out]
      refine Bool.eq_false_iff.2 fun hc => ?_
      simp only [Nd.rok, Nd.inb, Bool.and_eq_true, decide_eq_true_eq] at hc
      omega
    subst hb
    go_wp2_with fail
    go_ret
    exact ⟨rfl, HF.out⟩
  by_cases n10 : x5 < 0
  · have hb : B = false := by
      rw [← HB.out]
      refine Bool.eq_false_iff.2 fun hc => ?_
      simp only [Nd.rok, Nd.inb, Bool.and_eq_true, decide_eq_true_eq] at hc
      omega
    subst hb
    go_wp2_with fail
    go_ret
    exact ⟨rfl, HF.out⟩
  by_cases n11 : 16777215 < x5
  · have hb : B = false := by
      rw [← HB.out]
      refine Bool.eq_false_iff.2 fun hc => ?_
      simp only [Nd.rok, Nd.inb, Bool.and_eq_true, decide_eq_true_eq] at hc
      omega
    subst hb
    go_wp2_with fail
    go_ret
    exact ⟨rfl, HF.out⟩
  have hb : B = T := by
    rw [← HB.out]
    unfold Nd.rok Nd.inb
    rw [decide_eq_true (show 1 ≤ x0 by omega), decide_eq_true (show x0 ≤ 16 by omega)]
    rw [decide_eq_true (show 1 ≤ x1 by omega), decide_eq_true (show x1 ≤ 64 by omega)]
    rw [decide_eq_true (show 1 ≤ x2 by omega), decide_eq_true (show x2 ≤ 256 by omega)]
    rw [decide_eq_true (show 1 ≤ x3 by omega), decide_eq_true (show x3 ≤ 64 by omega)]
    rw [decide_eq_true (show 1 ≤ x4 by omega), decide_eq_true (show x4 ≤ 256 by omega)]
    rw [decide_eq_true (show 0 ≤ x5 by omega), decide_eq_true (show x5 ≤ 16777215 by omega)]
    simp
  subst hb
  clear HB
  go_wp2_with fail
  refine (HC.out _ HF.out).mono ?_
  rintro e w1 ⟨rfl, t1⟩
  have HF1 : Hid (Fresh w w1) := HF.out.trans t1 (fun _ _ e => e)
  clear t1
  simp only
  go_wp2
  go_ret
  exact ⟨rfl, HF1.out⟩
end Go.Proofs.YtimhjdepngmejaaGreat
