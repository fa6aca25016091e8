/-
  node.Config.Check: which configs may be. No conditions.
-/
import Derived.Test.YtimhjdepngmejaaGreatNdP
import Derived.Test.YtimhjdepngmejaaGreatSeq
namespace Go.Proofs.YtimhjdepngmejaaGreat
open Go.RowKit
set_option maxRecDepth 20000

namespace Nd
/-- A config: how an end is. -/
structure C where
  most : Int
  window : Int
  queue : Int
  units : Int
  polls : Int
  start : Int
  cc : Int
  poll : Int
  keep : Int
  silent : Int
  idle : Int
def C.cells (c : C) : List Value := [.int .i64 c.most, .int .i64 c.window, .int .i64 c.queue, .int .i64 c.units, .int .i64 c.polls, .int .u32 c.start, .int .i64 c.cc, .int .i64 c.poll, .int .i64 c.keep, .int .i64 c.silent, .int .i64 c.idle]
def C.val (c : C) : Value := .agg #[.int .i64 c.most, .int .i64 c.window, .int .i64 c.queue, .int .i64 c.units, .int .i64 c.polls, .int .u32 c.start, .int .i64 c.cc, .int .i64 c.poll, .int .i64 c.keep, .int .i64 c.silent, .int .i64 c.idle]
def C.tk (c : C) : Bool := okP c.cc c.poll c.keep c.silent c.idle
def C.ok (c : C) : Bool := inb c.most 16 && inb c.window 64 && inb c.queue 256 && inb c.units 64 && inb c.polls 256 && (c.start == c.start % 16777216) && c.tk
end Nd

theorem nin_any (x m : Int) (w : World) :
    Calls Tryz.prog 28 #[.int .i64 x, .int .i64 m] w fun e w' => e = .returned (.bool (Nd.inb x m)) ∧ w' = w := by
  obtain ⟨b, hb⟩ : ∃ b, Nd.inb x m = b := ⟨_, rfl⟩
  have HB := Lib.hid hb
  rw [hb]
  clear hb
  by_cases h1 : 1 ≤ x
  · by_cases h2 : x ≤ m
    · have hb : b = true := by rw [← HB.out]; unfold Nd.inb; rw [decide_eq_true h1, decide_eq_true h2]; rfl
      subst hb
      go_enter Tryz.func28, Tryz.ntmps28
      go_wp2
      go_ret
      exact ⟨rfl, rfl⟩
    · have hb : b = false := by rw [← HB.out]; unfold Nd.inb; rw [decide_eq_false h2, Bool.and_false]
      subst hb
      have h3 : ¬ x ≤ m := h2
      go_enter Tryz.func28, Tryz.ntmps28
      go_wp2
      go_ret
      exact ⟨rfl, rfl⟩
  · have hb : b = false := by rw [← HB.out]; unfold Nd.inb; rw [decide_eq_false h1]; rfl
    subst hb
    go_enter Tryz.func28, Tryz.ntmps28
    go_wp2
    go_ret
    exact ⟨rfl, rfl⟩

set_option maxHeartbeats 4000000 in
theorem ncheck_any (c : Nd.C) (w : World) :
    Calls Tryz.prog 10 #[c.val] w fun e w' => e = .returned (.int .i64 (if c.ok then 0 else 1)) ∧ Fresh w w' := by
  obtain ⟨r, hr⟩ : ∃ r : Int, (if c.ok then 0 else 1) = r := ⟨_, rfl⟩
  have HR := Lib.hid hr
  rw [hr]
  clear hr
  obtain ⟨x0, x1, x2, x3, x4, x5, y0, y1, y2, y3, y4⟩ := c
  have HV : Hid (Nd.C.ok ⟨x0, x1, x2, x3, x4, x5, y0, y1, y2, y3, y4⟩ = (Nd.inb x0 16 && Nd.inb x1 64 && Nd.inb x2 256 && Nd.inb x3 64 && Nd.inb x4 256 && (x5 == x5 % 16777216) && Nd.okP y0 y1 y2 y3 y4)) := rfl
  show Calls Tryz.prog 10 #[.agg #[.int .i64 x0, .int .i64 x1, .int .i64 x2, .int .i64 x3, .int .i64 x4, .int .u32 x5, .int .i64 y0, .int .i64 y1, .int .i64 y2, .int .i64 y3, .int .i64 y4]] w _
  have HI := Lib.hid nin_any
  have HP := Lib.hid (fun W => pcheck_any y0 y1 y2 y3 y4 W)
  have HL := Lib.hid (fun W => low_any x5 W)
  obtain ⟨z, hz⟩ : ∃ z, x5 % 16777216 = z := ⟨_, rfl⟩
  rw [hz] at HL HV
  clear hz
  obtain ⟨w1, hw1⟩ : ∃ w1, w1 = w.alloc (.cells #[.int .i64 x0, .int .i64 x1, .int .i64 x2, .int .i64 x3, .int .i64 x4, .int .u32 x5, .int .i64 y0, .int .i64 y1, .int .i64 y2, .int .i64 y3, .int .i64 y4] 31) := ⟨_, rfl⟩
  have F1 : Hid (Fresh w w1) := by rw [hw1]; exact (Touch.refl _ _).alloc _
  have B0 : Blk w1 w.heap.size 31 [.int .i64 x0, .int .i64 x1, .int .i64 x2, .int .i64 x3, .int .i64 x4, .int .u32 x5, .int .i64 y0, .int .i64 y1, .int .i64 y2, .int .i64 y3, .int .i64 y4] := by rw [hw1]; exact Blk.new w _ _
  have b0 : w1.cell? ⟨w.heap.size, 0, none⟩ = some (.int .i64 x0) := B0.cell 0
  have b1 : w1.cell? ⟨w.heap.size, 1, none⟩ = some (.int .i64 x1) := B0.cell 1
  have b2 : w1.cell? ⟨w.heap.size, 2, none⟩ = some (.int .i64 x2) := B0.cell 2
  have b3 : w1.cell? ⟨w.heap.size, 3, none⟩ = some (.int .i64 x3) := B0.cell 3
  have b4 : w1.cell? ⟨w.heap.size, 4, none⟩ = some (.int .i64 x4) := B0.cell 4
  have b5 : w1.cell? ⟨w.heap.size, 5, none⟩ = some (.int .u32 x5) := B0.cell 5
  have HB0 : Hid (∀ nq, (w1.drewN nq).cell? ⟨w.heap.size, 6, none⟩ = some (.int .i64 y0) ∧ (w1.drewN nq).cell? ⟨w.heap.size, 7, none⟩ = some (.int .i64 y1) ∧ (w1.drewN nq).cell? ⟨w.heap.size, 8, none⟩ = some (.int .i64 y2) ∧ (w1.drewN nq).cell? ⟨w.heap.size, 9, none⟩ = some (.int .i64 y3) ∧ (w1.drewN nq).cell? ⟨w.heap.size, 10, none⟩ = some (.int .i64 y4)) := fun nq => ⟨(B0.drewN nq).cell 6, (B0.drewN nq).cell 7, (B0.drewN nq).cell 8, (B0.drewN nq).cell 9, (B0.drewN nq).cell 10⟩
  clear B0
  go_enter Tryz.func10, Tryz.ntmps10
  go_wp2_with fail
  rw [← hw1]
  clear hw1
  by_cases i0 : Nd.inb x0 16 = true
  · by_cases i1 : Nd.inb x1 64 = true
    · by_cases i2 : Nd.inb x2 256 = true
      · by_cases i3 : Nd.inb x3 64 = true
        · by_cases i4 : Nd.inb x4 256 = true
          · by_cases i5 : (x5 == z) = true
            · have i6 : (x5 != z) = false := by unfold bne; rw [i5]; rfl
              have hv : r = if Nd.okP y0 y1 y2 y3 y4 then 0 else 1 := by
                have e := HV.out
                rw [i0, i1, i2, i3, i4, i5] at e
                rw [← HR.out, e]
                simp
              clear HV HR
              go_quiet ((first
                | (go_at_call 28; exact Calls.quiet_of_same (HI.out _ _ _))
                | (go_at_call 29; exact Calls.quiet_of_same (HL.out _))))
              obtain ⟨d0, d1, d2, d3, d4⟩ := HB0.out nq
              obtain ⟨w2, hw2⟩ : ∃ w2, w2 = w1.drewN nq := ⟨_, rfl⟩
              have F2 : Hid (Fresh w w2) := by rw [hw2]; exact F1.out.drewN nq
              rw [← hw2] at d0 d1 d2 d3 d4 ⊢
              clear hw2 b0 b1 b2 b3 b4 b5 i0 i1 i2 i3 i4 i5 HI HL HB0
              go_wp2_with fail
              refine (HP.out _).mono ?_
              rintro e w3 ⟨rfl, f3⟩
              rw [← hv]
              have F3 : Hid (Fresh w w3) := F2.out.trans f3 (fun _ _ e => e)
              clear f3 hv HP
              simp only
              go_wp2
              go_ret
              exact ⟨rfl, F3.out⟩
            · have j5 : (x5 == z) = false := by simpa using i5
              have hv : r = 1 := by
                have e := HV.out
                rw [i0, i1, i2, i3, i4, j5] at e
                rw [← HR.out, e]
                simp
              have i6 : (x5 != z) = true := by unfold bne; rw [j5]; rfl
              clear i5 HV HR
              go_quiet ((first
                | (go_at_call 28; exact Calls.quiet_of_same (HI.out _ _ _))
                | (go_at_call 29; exact Calls.quiet_of_same (HL.out _))))
              obtain ⟨w2, hw2⟩ : ∃ w2, w2 = w1.drewN nq := ⟨_, rfl⟩
              have F2 : Hid (Fresh w w2) := by rw [hw2]; exact F1.out.drewN nq
              rw [← hw2]
              clear hw2 b0 b1 b2 b3 b4 b5 HI HL HB0 HP
              go_wp2
              go_ret
              exact ⟨by first | rfl | (rw [hv]; rfl), F2.out⟩
          · have j4 : Nd.inb x4 256 = false := by simpa using i4
            have hv : r = 1 := by
              have e := HV.out
              rw [i0, i1, i2, i3, j4] at e
              rw [← HR.out, e]
              simp
            clear i4 HV HR
            go_quiet ((first
              | (go_at_call 28; exact Calls.quiet_of_same (HI.out _ _ _))
              | (go_at_call 29; exact Calls.quiet_of_same (HL.out _))))
            obtain ⟨w2, hw2⟩ : ∃ w2, w2 = w1.drewN nq := ⟨_, rfl⟩
            have F2 : Hid (Fresh w w2) := by rw [hw2]; exact F1.out.drewN nq
            rw [← hw2]
            clear hw2 b0 b1 b2 b3 b4 b5 HI HL HB0 HP
            go_wp2
            go_ret
            exact ⟨by first | rfl | (rw [hv]; rfl), F2.out⟩
        · have j3 : Nd.inb x3 64 = false := by simpa using i3
          have hv : r = 1 := by
            have e := HV.out
            rw [i0, i1, i2, j3] at e
            rw [← HR.out, e]
            simp
          clear i3 HV HR
          go_quiet ((first
            | (go_at_call 28; exact Calls.quiet_of_same (HI.out _ _ _))
            | (go_at_call 29; exact Calls.quiet_of_same (HL.out _))))
          obtain ⟨w2, hw2⟩ : ∃ w2, w2 = w1.drewN nq := ⟨_, rfl⟩
          have F2 : Hid (Fresh w w2) := by rw [hw2]; exact F1.out.drewN nq
          rw [← hw2]
          clear hw2 b0 b1 b2 b3 b4 b5 HI HL HB0 HP
          go_wp2
          go_ret
          exact ⟨by first | rfl | (rw [hv]; rfl), F2.out⟩
      · have j2 : Nd.inb x2 256 = false := by simpa using i2
        have hv : r = 1 := by
          have e := HV.out
          rw [i0, i1, j2] at e
          rw [← HR.out, e]
          simp
        clear i2 HV HR
        go_quiet ((first
          | (go_at_call 28; exact Calls.quiet_of_same (HI.out _ _ _))
          | (go_at_call 29; exact Calls.quiet_of_same (HL.out _))))
        obtain ⟨w2, hw2⟩ : ∃ w2, w2 = w1.drewN nq := ⟨_, rfl⟩
        have F2 : Hid (Fresh w w2) := by rw [hw2]; exact F1.out.drewN nq
        rw [← hw2]
        clear hw2 b0 b1 b2 b3 b4 b5 HI HL HB0 HP
        go_wp2
        go_ret
        exact ⟨by first | rfl | (rw [hv]; rfl), F2.out⟩
    · have j1 : Nd.inb x1 64 = false := by simpa using i1
      have hv : r = 1 := by
        have e := HV.out
        rw [i0, j1] at e
        rw [← HR.out, e]
        simp
      clear i1 HV HR
      go_quiet ((first
        | (go_at_call 28; exact Calls.quiet_of_same (HI.out _ _ _))
        | (go_at_call 29; exact Calls.quiet_of_same (HL.out _))))
      obtain ⟨w2, hw2⟩ : ∃ w2, w2 = w1.drewN nq := ⟨_, rfl⟩
      have F2 : Hid (Fresh w w2) := by rw [hw2]; exact F1.out.drewN nq
      rw [← hw2]
      clear hw2 b0 b1 b2 b3 b4 b5 HI HL HB0 HP
      go_wp2
      go_ret
      exact ⟨by first | rfl | (rw [hv]; rfl), F2.out⟩
  · have j0 : Nd.inb x0 16 = false := by simpa using i0
    have hv : r = 1 := by
      have e := HV.out
      rw [j0] at e
      rw [← HR.out, e]
      simp
    clear i0 HV HR
    go_quiet ((first
      | (go_at_call 28; exact Calls.quiet_of_same (HI.out _ _ _))
      | (go_at_call 29; exact Calls.quiet_of_same (HL.out _))))
    obtain ⟨w2, hw2⟩ : ∃ w2, w2 = w1.drewN nq := ⟨_, rfl⟩
    have F2 : Hid (Fresh w w2) := by rw [hw2]; exact F1.out.drewN nq
    rw [← hw2]
    clear hw2 b0 b1 b2 b3 b4 b5 HI HL HB0 HP
    go_wp2
    go_ret
    exact ⟨by first | rfl | (rw [hv]; rfl), F2.out⟩
end Go.Proofs.YtimhjdepngmejaaGreat
