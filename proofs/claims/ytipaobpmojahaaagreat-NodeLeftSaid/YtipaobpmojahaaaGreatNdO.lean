/-
  node.Config.Check: which configs may be. No conditions · polliwoglaw16.Right: a config that may be, of any. No conditions · polliwoglaw15.Own at any five ticks; polliwoglaw16.Own, Right at the fixed config. No conditions.
-/
import Derived.Test.YtipaobpmojahaaaGreatRf15
import Derived.Test.YtipaobpmojahaaaGreatEvD
import Derived.Test.YtipaobpmojahaaaGreatNum
import Derived.Test.YtipaobpmojahaaaGreatOp6
import Derived.Deep.RegionHeld3
set_option maxHeartbeats 4000000
namespace Go.Proofs.YtipaobpmojahaaaGreat
open Go.RowKit
set_option maxRecDepth 20000

namespace Nd
structure C where
 most : Int
 window : Int
 queue : Int
 units : Int
 polls : Int
 start : Int
 cc : Int
 poll : Int
 keep : Int
 silent : Int
 idle : Int
def C.cells (c : C) : List Value := [.int .i64 c.most, .int .i64 c.window, .int .i64 c.queue, .int .i64 c.units, .int .i64 c.polls, .int .u32 c.start, .int .i64 c.cc, .int .i64 c.poll, .int .i64 c.keep, .int .i64 c.silent, .int .i64 c.idle]
def C.val (c : C) : Value := .agg #[.int .i64 c.most, .int .i64 c.window, .int .i64 c.queue, .int .i64 c.units, .int .i64 c.polls, .int .u32 c.start, .int .i64 c.cc, .int .i64 c.poll, .int .i64 c.keep, .int .i64 c.silent, .int .i64 c.idle]
def C.tk (c : C) : Bool := okP c.cc c.poll c.keep c.silent c.idle
def C.ok (c : C) : Bool := inb c.most 16 && inb c.window 64 && inb c.queue 256 && inb c.units 64 && inb c.polls 256 && (c.start == c.start % 16777216) && c.tk
end Nd

theorem nin_any (x m : Int) (w : World) :
  Calls Tryz.prog 155 #[.int .i64 x, .int .i64 m] w fun e w' => e = .returned (.bool (Nd.inb x m)) ∧ w' = w := by
 obtain ⟨b, hb⟩ := qx (Nd.inb x m)
 have HB := lh hb
 rw [hb]
 clear hb
 by_cases h1 : 1 <= x
 ·by_cases h2 : x <= m
  ·have hb : b = true := by rw [<- HB.out]; unfold Nd.inb; rw [decide_eq_true h1, decide_eq_true h2]; rfl
   subst hb
   go_enter Tryz.func155, Tryz.ntmps155
   go_wp2
   go_ret
   exact ⟨rfl, rfl⟩
  ·have hb : b = false := by rw [<- HB.out]; unfold Nd.inb; rw [decide_eq_false h2, Bool.and_false]
   subst hb
   have h3 : ¬ x <= m := h2
   go_enter Tryz.func155, Tryz.ntmps155
   go_wp2
   go_ret
   exact ⟨rfl, rfl⟩
 ·have hb : b = false := by rw [<- HB.out]; unfold Nd.inb; rw [decide_eq_false h1]; rfl
  subst hb
  go_enter Tryz.func155, Tryz.ntmps155
  go_wp2
  go_ret
  exact ⟨rfl, rfl⟩

theorem ncheck_any (c : Nd.C) (w : World) :
  Calls Tryz.prog 68 #[c.val] w fun e w' => e = .returned (.int .i64 (if c.ok then 0 else 1)) ∧ Fresh w w' := by
 obtain ⟨r, hr⟩ : ∃ r : Int, (if c.ok then 0 else 1) = r := ⟨_, rfl⟩
 have HR := lh hr
 rw [hr]
 clear hr
 obtain ⟨x0, x1, x2, x3, x4, x5, y0, y1, y2, y3, y4⟩ := c
 have HV : Hid (Nd.C.ok ⟨x0, x1, x2, x3, x4, x5, y0, y1, y2, y3, y4⟩ = (Nd.inb x0 16 && Nd.inb x1 64 && Nd.inb x2 256 && Nd.inb x3 64 && Nd.inb x4 256 && (x5 == x5 % 16777216) && Nd.okP y0 y1 y2 y3 y4)) := rfl
 show Calls Tryz.prog 68 #[.agg #[.int .i64 x0, .int .i64 x1, .int .i64 x2, .int .i64 x3, .int .i64 x4, .int .u32 x5, .int .i64 y0, .int .i64 y1, .int .i64 y2, .int .i64 y3, .int .i64 y4]] w _
 have HI := lh nin_any
 have HP := lh (fun W => pcheck_any y0 y1 y2 y3 y4 W)
 have HL := lh (fun W => low_any x5 W)
 obtain ⟨z, hz⟩ := qx (x5 % 16777216)
 rw [hz] at HL HV
 clear hz
 obtain ⟨w1, hw1⟩ := xq (w.alloc (.cells #[.int .i64 x0, .int .i64 x1, .int .i64 x2, .int .i64 x3, .int .i64 x4, .int .u32 x5, .int .i64 y0, .int .i64 y1, .int .i64 y2, .int .i64 y3, .int .i64 y4] 88))
 have F1 : Hid (Fresh w w1) := by rw [hw1]; exact (Touch.refl _ _).alloc _
 have B0 : Blk w1 w.heap.size 88 [.int .i64 x0, .int .i64 x1, .int .i64 x2, .int .i64 x3, .int .i64 x4, .int .u32 x5, .int .i64 y0, .int .i64 y1, .int .i64 y2, .int .i64 y3, .int .i64 y4] := by rw [hw1]; exact Blk.new w _ _
 have b0 : w1.cell? ⟨w.heap.size, 0, none⟩ = some (.int .i64 x0) := B0.cell 0
 have b1 : w1.cell? ⟨w.heap.size, 1, none⟩ = some (.int .i64 x1) := B0.cell 1
 have b2 : w1.cell? ⟨w.heap.size, 2, none⟩ = some (.int .i64 x2) := B0.cell 2
 have b3 : w1.cell? ⟨w.heap.size, 3, none⟩ = some (.int .i64 x3) := B0.cell 3
 have b4 : w1.cell? ⟨w.heap.size, 4, none⟩ = some (.int .i64 x4) := B0.cell 4
 have b5 : w1.cell? ⟨w.heap.size, 5, none⟩ = some (.int .u32 x5) := B0.cell 5
 have HB0 : Hid (∀ nq, (w1.drewN nq).cell? ⟨w.heap.size, 6, none⟩ = some (.int .i64 y0) ∧ (w1.drewN nq).cell? ⟨w.heap.size, 7, none⟩ = some (.int .i64 y1) ∧ (w1.drewN nq).cell? ⟨w.heap.size, 8, none⟩ = some (.int .i64 y2) ∧ (w1.drewN nq).cell? ⟨w.heap.size, 9, none⟩ = some (.int .i64 y3) ∧ (w1.drewN nq).cell? ⟨w.heap.size, 10, none⟩ = some (.int .i64 y4)) := fun nq => ⟨(B0.drewN nq).cell 6, (B0.drewN nq).cell 7, (B0.drewN nq).cell 8, (B0.drewN nq).cell 9, (B0.drewN nq).cell 10⟩
 clear B0
 go_enter Tryz.func68, Tryz.ntmps68
 go_wp2_with fail
 rw [<- hw1]
 clear hw1
 by_cases i0 : Nd.inb x0 16 = true
 ·by_cases i1 : Nd.inb x1 64 = true
  ·by_cases i2 : Nd.inb x2 256 = true
   ·by_cases i3 : Nd.inb x3 64 = true
    ·by_cases i4 : Nd.inb x4 256 = true
     ·by_cases i5 : (x5 == z) = true
      ·have i6 : (x5 != z) = false := by unfold bne; rw [i5]; rfl
       have hv : r = if Nd.okP y0 y1 y2 y3 y4 then 0 else 1 := by
        have e := HV.out
        rw [i0, i1, i2, i3, i4, i5] at e
        rw [<- HR.out, e]
        simp
       clear HV HR
       go_quiet ((first
        |(go_at_call 155; exact Calls.quiet_of_same (HI.out _ _ _))
        |(go_at_call 49; exact Calls.quiet_of_same (HL.out _))))
       obtain ⟨d0, d1, d2, d3, d4⟩ := HB0.out nq
       obtain ⟨w2, hw2⟩ := xq (w1.drewN nq)
       have F2 : Hid (Fresh w w2) := by rw [hw2]; exact F1.out.drewN nq
       rw [<- hw2] at d0 d1 d2 d3 d4 ⊢
       clear hw2 b0 b1 b2 b3 b4 b5 i0 i1 i2 i3 i4 i5 HI HL HB0
       go_wp2_with fail
       refine (HP.out _).mono ?_
       rintro e w3 ⟨rfl, f3⟩
       rw [<- hv]
       have F3 : Hid (Fresh w w3) := F2.out.trans f3 (fun _ _ e => e)
       clear f3 hv HP
       simp only
       go_wp2
       go_ret
       exact ⟨rfl, F3.out⟩
      ·have j5 : (x5 == z) = false := by simpa using i5
       have hv : r = 1 := by
        have e := HV.out
        rw [i0, i1, i2, i3, i4, j5] at e
        rw [<- HR.out, e]
        simp
       have i6 : (x5 != z) = true := by unfold bne; rw [j5]; rfl
       clear i5 HV HR
       go_quiet ((first
        |(go_at_call 155; exact Calls.quiet_of_same (HI.out _ _ _))
        |(go_at_call 49; exact Calls.quiet_of_same (HL.out _))))
       obtain ⟨w2, hw2⟩ := xq (w1.drewN nq)
       have F2 : Hid (Fresh w w2) := by rw [hw2]; exact F1.out.drewN nq
       rw [<- hw2]
       clear hw2 b0 b1 b2 b3 b4 b5 HI HL HB0 HP
       go_wp2
       go_ret
       exact ⟨by first | rfl | (rw [hv]; rfl), F2.out⟩
     ·have j4 : Nd.inb x4 256 = false := by simpa using i4
      have hv : r = 1 := by
       have e := HV.out
       rw [i0, i1, i2, i3, j4] at e
       rw [<- HR.out, e]
       simp
      clear i4 HV HR
      go_quiet ((first
       |(go_at_call 155; exact Calls.quiet_of_same (HI.out _ _ _))
       |(go_at_call 49; exact Calls.quiet_of_same (HL.out _))))
      obtain ⟨w2, hw2⟩ := xq (w1.drewN nq)
      have F2 : Hid (Fresh w w2) := by rw [hw2]; exact F1.out.drewN nq
      rw [<- hw2]
      clear hw2 b0 b1 b2 b3 b4 b5 HI HL HB0 HP
      go_wp2
      go_ret
      exact ⟨by first | rfl | (rw [hv]; rfl), F2.out⟩
    ·have j3 : Nd.inb x3 64 = false := by simpa using i3
     have hv : r = 1 := by
      have e := HV.out
      rw [i0, i1, i2, j3] at e
      rw [<- HR.out, e]
      simp
     clear i3 HV HR
     go_quiet ((first
      |(go_at_call 155; exact Calls.quiet_of_same (HI.out _ _ _))
      |(go_at_call 49; exact Calls.quiet_of_same (HL.out _))))
     obtain ⟨w2, hw2⟩ := xq (w1.drewN nq)
     have F2 : Hid (Fresh w w2) := by rw [hw2]; exact F1.out.drewN nq
     rw [<- hw2]
     clear hw2 b0 b1 b2 b3 b4 b5 HI HL HB0 HP
     go_wp2
     go_ret
     exact ⟨by first | rfl | (rw [hv]; rfl), F2.out⟩
   ·have j2 : Nd.inb x2 256 = false := by simpa using i2
    have hv : r = 1 := by
     have e := HV.out
     rw [i0, i1, j2] at e
     rw [<- HR.out, e]
     simp
    clear i2 HV HR
    go_quiet ((first
     |(go_at_call 155; exact Calls.quiet_of_same (HI.out _ _ _))
     |(go_at_call 49; exact Calls.quiet_of_same (HL.out _))))
    obtain ⟨w2, hw2⟩ := xq (w1.drewN nq)
    have F2 : Hid (Fresh w w2) := by rw [hw2]; exact F1.out.drewN nq
    rw [<- hw2]
    clear hw2 b0 b1 b2 b3 b4 b5 HI HL HB0 HP
    go_wp2
    go_ret
    exact ⟨by first | rfl | (rw [hv]; rfl), F2.out⟩
  ·have j1 : Nd.inb x1 64 = false := by simpa using i1
   have hv : r = 1 := by
    have e := HV.out
    rw [i0, j1] at e
    rw [<- HR.out, e]
    simp
   clear i1 HV HR
   go_quiet ((first
    |(go_at_call 155; exact Calls.quiet_of_same (HI.out _ _ _))
    |(go_at_call 49; exact Calls.quiet_of_same (HL.out _))))
   obtain ⟨w2, hw2⟩ := xq (w1.drewN nq)
   have F2 : Hid (Fresh w w2) := by rw [hw2]; exact F1.out.drewN nq
   rw [<- hw2]
   clear hw2 b0 b1 b2 b3 b4 b5 HI HL HB0 HP
   go_wp2
   go_ret
   exact ⟨by first | rfl | (rw [hv]; rfl), F2.out⟩
 ·have j0 : Nd.inb x0 16 = false := by simpa using i0
  have hv : r = 1 := by
   have e := HV.out
   rw [j0] at e
   rw [<- HR.out, e]
   simp
  clear i0 HV HR
  go_quiet ((first
   |(go_at_call 155; exact Calls.quiet_of_same (HI.out _ _ _))
   |(go_at_call 49; exact Calls.quiet_of_same (HL.out _))))
  obtain ⟨w2, hw2⟩ := xq (w1.drewN nq)
  have F2 : Hid (Fresh w w2) := by rw [hw2]; exact F1.out.drewN nq
  rw [<- hw2]
  clear hw2 b0 b1 b2 b3 b4 b5 HI HL HB0 HP
  go_wp2
  go_ret
  exact ⟨by first | rfl | (rw [hv]; rfl), F2.out⟩
set_option maxRecDepth 20000

theorem rin_any (x m : Int) (w : World) :
  Calls Tryz.prog 25 #[.int .i64 x, .int .i64 m] w fun e w' => e = .returned (.int .i64 (max 1 (min x m))) ∧ w' = w := by
 obtain ⟨m1, hm⟩ := qx ((if m < x then m else x))
 obtain ⟨m', hm'⟩ : ∃ m', (if 1 < m1 then m1 else 1) = m' := ⟨_, rfl⟩
 have hx : Hid (max 1 (min x m) = m') := by
  unfold Hid
  rw [<- hm', <- hm]; (split <;> (try split) <;> omega)
 go_enter Tryz.func25, Tryz.ntmps25
 go_wp2
 go_ret
 exact ⟨by rw [hx.out]; first | rfl | simp, rfl⟩

def Right16 (w : World) (x0 x1 x2 x3 x4 x5 : Int) (e : Ending) (w' : World) : Prop :=
 ∃ g c0 c1 c2 c3 c4, e = .returned (.agg #[.int .i64 (max 1 (min x0 16)), .int .i64 (max 1 (min x1 64)), .int .i64 (max 1 (min x2 256)), .int .i64 (max 1 (min x3 64)), .int .i64 (max 1 (min x4 256)), .int .i64 (x5 % 16777216), .slice (some ⟨g, 0, none⟩) 5 5]) ∧ Sl intE w' (some ⟨g, 0, none⟩) 5 [c0, c1, c2, c3, c4] ∧ GoodC c0 c1 c2 c3 c4 ∧ Fresh w w' ∧ w.heap.size <= g
theorem right16_any (x0 x1 x2 x3 x4 x5 : Int) (A : Option Addr) (c : Nat) (L : List Int) (w : World) (h : Rd intE w A c L) :
  Calls Tryz.prog 10 #[.agg #[.int .i64 x0, .int .i64 x1, .int .i64 x2, .int .i64 x3, .int .i64 x4, .int .i64 x5, .slice A L.length c]] w (Right16 w x0 x1 x2 x3 x4 x5) := by
 have HR := lh h
 clear h
 have HO : Hid (∀ W, Fresh w W -> Calls Tryz.prog 27 #[.slice A L.length c] W (RightPost W)) := fun W hW => right_any A c L W (HR.out.touch hW (fun _ _ _ e => e))
 have HI := lh rin_any
 have HS := lh (fun W => r01of_any x5 W)
 obtain ⟨y0, hy0⟩ := qx (max 1 (min x0 16))
 have HI0 : Hid (∀ W, Calls Tryz.prog 25 #[.int .i64 x0, .int .i64 16] W fun e w' => e = .returned (.int .i64 y0) ∧ w' = W) := by rw [<- hy0]; exact fun W => rin_any x0 16 W
 obtain ⟨y1, hy1⟩ := qx (max 1 (min x1 64))
 have HI1 : Hid (∀ W, Calls Tryz.prog 25 #[.int .i64 x1, .int .i64 64] W fun e w' => e = .returned (.int .i64 y1) ∧ w' = W) := by rw [<- hy1]; exact fun W => rin_any x1 64 W
 obtain ⟨y2, hy2⟩ := qx (max 1 (min x2 256))
 have HI2 : Hid (∀ W, Calls Tryz.prog 25 #[.int .i64 x2, .int .i64 256] W fun e w' => e = .returned (.int .i64 y2) ∧ w' = W) := by rw [<- hy2]; exact fun W => rin_any x2 256 W
 obtain ⟨y3, hy3⟩ := qx (max 1 (min x3 64))
 have HI3 : Hid (∀ W, Calls Tryz.prog 25 #[.int .i64 x3, .int .i64 64] W fun e w' => e = .returned (.int .i64 y3) ∧ w' = W) := by rw [<- hy3]; exact fun W => rin_any x3 64 W
 obtain ⟨y4, hy4⟩ := qx (max 1 (min x4 256))
 have HI4 : Hid (∀ W, Calls Tryz.prog 25 #[.int .i64 x4, .int .i64 256] W fun e w' => e = .returned (.int .i64 y4) ∧ w' = W) := by rw [<- hy4]; exact fun W => rin_any x4 256 W
 obtain ⟨y5, hy5⟩ := qx (x5 % 16777216)
 rw [hy5] at HS
 have HPO : Hid (∀ e w', (∃ g c0 c1 c2 c3 c4, e = .returned (.agg #[.int .i64 y0, .int .i64 y1, .int .i64 y2, .int .i64 y3, .int .i64 y4, .int .i64 y5, .slice (some ⟨g, 0, none⟩) 5 5]) ∧ Sl intE w' (some ⟨g, 0, none⟩) 5 [c0, c1, c2, c3, c4] ∧ GoodC c0 c1 c2 c3 c4 ∧ Fresh w w' ∧ w.heap.size <= g) -> Right16 w x0 x1 x2 x3 x4 x5 e w') := by
  rw [<- hy0, <- hy1, <- hy2, <- hy3, <- hy4, <- hy5]
  exact fun e w' h => h
 clear hy0 hy1 hy2 hy3 hy4 hy5 HI
 refine Calls.mono ?_ HPO.out
 obtain ⟨w0, hw0⟩ := xq ((w.alloc (.cells #[.int .i64 x0, .int .i64 x1, .int .i64 x2, .int .i64 x3, .int .i64 x4, .int .i64 x5, .slice A L.length c] 24)).alloc (.cells #[.int .i64 0, .int .i64 0, .int .i64 0, .int .i64 0, .int .i64 0, .int .i64 0, .slice none 0 0] 24))
 have HF : Hid (Fresh w w0) := by rw [hw0]; exact ((Touch.refl _ _).alloc _).alloc _
 obtain ⟨bg, hbg⟩ := xq w.heap.size
 obtain ⟨br, hbr⟩ := xq (w.heap.size + 1)
 have HB : Hid (Blk w0 bg 24 [.int .i64 x0, .int .i64 x1, .int .i64 x2, .int .i64 x3, .int .i64 x4, .int .i64 x5, .slice A L.length c]) := by rw [hw0, hbg]; exact (Blk.new w _ _).alloc _
 have HBR : Hid (Blk w0 br 24 [.int .i64 0, .int .i64 0, .int .i64 0, .int .i64 0, .int .i64 0, .int .i64 0, .slice none 0 0]) := by
  have := Blk.new (w.alloc (.cells #[.int .i64 x0, .int .i64 x1, .int .i64 x2, .int .i64 x3, .int .i64 x4, .int .i64 x5, .slice A L.length c] 24)) 24 [.int .i64 0, .int .i64 0, .int .i64 0, .int .i64 0, .int .i64 0, .int .i64 0, .slice none 0 0]
  rw [hw0, hbr]
  unfold Hid
  simpa using this
 have HNE : Hid (bg ≠ br ∧ w.heap.size <= br) := by unfold Hid; omega
 have HKEEP : Hid (∀ wx, Touch (· = br) w0 wx -> wx.cell? ⟨bg, 0, none⟩ = some (.int .i64 x0) ∧ wx.cell? ⟨bg, 1, none⟩ = some (.int .i64 x1) ∧ wx.cell? ⟨bg, 2, none⟩ = some (.int .i64 x2) ∧ wx.cell? ⟨bg, 3, none⟩ = some (.int .i64 x3) ∧ wx.cell? ⟨bg, 4, none⟩ = some (.int .i64 x4) ∧ wx.cell? ⟨bg, 5, none⟩ = some (.int .i64 x5) ∧ wx.cell? ⟨bg, 6, none⟩ = some (.slice A L.length c)) := fun wx ht => by
  have hb := ht.blk HB.out HNE.out.1
  exact ⟨hb.cell 0, hb.cell 1, hb.cell 2, hb.cell 3, hb.cell 4, hb.cell 5, hb.cell 6⟩
 go_enter Tryz.func10, Tryz.ntmps10
 go_wp2_with fail
 rw [<- hw0, <- hbr, <- hbg]
 clear hw0 hbr hbg
 have hne1 : ¬ bg = br := HNE.out.1
 have hne2 : ¬ br = bg := fun e => hne1 e.symm
 have d0 : w0.cell? ⟨bg, 0, none⟩ = some (.int .i64 x0) := HB.out.cell 0
 have d1 : w0.cell? ⟨bg, 1, none⟩ = some (.int .i64 x1) := HB.out.cell 1
 have d2 : w0.cell? ⟨bg, 2, none⟩ = some (.int .i64 x2) := HB.out.cell 2
 have d3 : w0.cell? ⟨bg, 3, none⟩ = some (.int .i64 x3) := HB.out.cell 3
 have d4 : w0.cell? ⟨bg, 4, none⟩ = some (.int .i64 x4) := HB.out.cell 4
 have d5 : w0.cell? ⟨bg, 5, none⟩ = some (.int .i64 x5) := HB.out.cell 5
 have d6 : w0.cell? ⟨bg, 6, none⟩ = some (.slice A L.length c) := HB.out.cell 6
 have HO2 : Hid (Calls Tryz.prog 27 #[.slice A L.length c] w0.drew fun e w3 => ∃ g c0 c1 c2 c3 c4, e = .returned (.slice (some ⟨g, 0, none⟩) 5 5) ∧ Hid (Sl intE w3 (some ⟨g, 0, none⟩) 5 [c0, c1, c2, c3, c4]) ∧ Hid (GoodC c0 c1 c2 c3 c4) ∧ Hid (Touch (· = br) w0 w3) ∧ Hid (Blk w3 br 24 [.int .i64 0, .int .i64 0, .int .i64 0, .int .i64 0, .int .i64 0, .int .i64 0, .slice none 0 0]) ∧ Hid (Fresh w w3) ∧ Hid (w.heap.size <= g)) := (HO.out _ HF.out.drew).mono fun e w3 ⟨g, c0, c1, c2, c3, c4, h1, h2, h3, h4, h5⟩ =>
  ⟨g, c0, c1, c2, c3, c4, h1, h2, h3, ((Touch.refl _ _).drew).trans h4 (fun _ _ e => e.elim), h4.blk HBR.out.drew (fun e => e), HF.out.drew.trans h4 (fun _ _ e => e), by have h1 := HF.out.size; have h2 : w0.heap.size <= g := h5; unfold Hid; omega⟩
 go_region_held3 (fun wx => wx.cell? ⟨bg, 0, none⟩ = some (.int .i64 x0) ∧ wx.cell? ⟨bg, 1, none⟩ = some (.int .i64 x1) ∧ wx.cell? ⟨bg, 2, none⟩ = some (.int .i64 x2) ∧ wx.cell? ⟨bg, 3, none⟩ = some (.int .i64 x3) ∧ wx.cell? ⟨bg, 4, none⟩ = some (.int .i64 x4) ∧ wx.cell? ⟨bg, 5, none⟩ = some (.int .i64 x5) ∧ wx.cell? ⟨bg, 6, none⟩ = some (.slice A L.length c))
  (with_reducible refine HKEEP.out _ ?_; repeat (first | with_reducible exact Touch.refl _ _ | with_reducible exact HT3.out | with_reducible refine Touch.drew ?_ | with_reducible refine Touch.st ?_ rfl))
  (first
   |(go_simp; go_at_call 25; with_reducible refine (HI0.out _).mono ?_; rintro e w2 ⟨rfl, rfl⟩)
   |(go_simp; go_at_call 25; with_reducible refine (HI1.out _).mono ?_; rintro e w2 ⟨rfl, rfl⟩)
   |(go_simp; go_at_call 25; with_reducible refine (HI2.out _).mono ?_; rintro e w2 ⟨rfl, rfl⟩)
   |(go_simp; go_at_call 25; with_reducible refine (HI3.out _).mono ?_; rintro e w2 ⟨rfl, rfl⟩)
   |(go_simp; go_at_call 25; with_reducible refine (HI4.out _).mono ?_; rintro e w2 ⟨rfl, rfl⟩)
   |(go_simp; go_at_call 26; with_reducible refine (HS.out _).mono ?_; rintro e w2 ⟨rfl, rfl⟩)
   |(go_simp; go_at_call 27; with_reducible refine HO2.out.mono ?_; rintro e w3 ⟨g, c0, c1, c2, c3, c4, rfl, HS3, HG3, HT3, HR3, HF3, HGL⟩
     have z0 : w3.cell? ⟨br, 0, none⟩ = some (.int .i64 0) := HR3.out.cell 0
     have z1 : w3.cell? ⟨br, 1, none⟩ = some (.int .i64 0) := HR3.out.cell 1
     have z2 : w3.cell? ⟨br, 2, none⟩ = some (.int .i64 0) := HR3.out.cell 2
     have z3 : w3.cell? ⟨br, 3, none⟩ = some (.int .i64 0) := HR3.out.cell 3
     have z4 : w3.cell? ⟨br, 4, none⟩ = some (.int .i64 0) := HR3.out.cell 4
     have z5 : w3.cell? ⟨br, 5, none⟩ = some (.int .i64 0) := HR3.out.cell 5
     have z6 : w3.cell? ⟨br, 6, none⟩ = some (.slice none 0 0) := HR3.out.cell 6
     have q0 := HR3.out.frozen 0
     have q1 := HR3.out.frozen 1
     have q2 := HR3.out.frozen 2
     have q3 := HR3.out.frozen 3
     have q4 := HR3.out.frozen 4
     have q5 := HR3.out.frozen 5
     have q6 := HR3.out.frozen 6))
 all_goals
  have hk : ∀ i, (⟨br, i, none⟩ : Addr).block < w.heap.size -> False := fun i e => by have e : br < w.heap.size := e; have := HNE.out.2; omega
  have hgb : ∀ ad, some (⟨g, 0, none⟩ : Addr) = some ad -> ad.block ≠ br := HS3.out.blk_ne HR3.out (by decide)
  have HFF := lh (((((((HF3.out.setCell (hk 0) (.int .i64 y0)).setCell (hk 1) (.int .i64 y1)).setCell (hk 2) (.int .i64 y2)).setCell (hk 3) (.int .i64 y3)).setCell (hk 4) (.int .i64 y4)).setCell (hk 5) (.int .i64 y5)).setCell (hk 6) (.slice (some ⟨g, 0, none⟩) 5 5))
  have HBF := lh (((((((HR3.out.set 0 (.int .i64 y0)).set 1 (.int .i64 y1)).set 2 (.int .i64 y2)).set 3 (.int .i64 y3)).set 4 (.int .i64 y4)).set 5 (.int .i64 y5)).set 6 (.slice (some ⟨g, 0, none⟩) 5 5))
  have HSF := lh (((((((HS3.out.setCell (p := ⟨br, 0, none⟩) hgb (.int .i64 y0)).setCell (p := ⟨br, 1, none⟩) hgb (.int .i64 y1)).setCell (p := ⟨br, 2, none⟩) hgb (.int .i64 y2)).setCell (p := ⟨br, 3, none⟩) hgb (.int .i64 y3)).setCell (p := ⟨br, 4, none⟩) hgb (.int .i64 y4)).setCell (p := ⟨br, 5, none⟩) hgb (.int .i64 y5)).setCell (p := ⟨br, 6, none⟩) hgb (.slice (some ⟨g, 0, none⟩) 5 5))
  clear hk hgb
  go_wp2
  have e0 := HBF.out.cell 0
  have e1 := HBF.out.cell 1
  have e2 := HBF.out.cell 2
  have e3 := HBF.out.cell 3
  have e4 := HBF.out.cell 4
  have e5 := HBF.out.cell 5
  have e6 := HBF.out.cell 6
  simp only [List.set_cons_zero, List.set_cons_succ, List.getElem?_cons_zero, List.getElem?_cons_succ] at e0 e1 e2 e3 e4 e5 e6
  exact bodyPost_ret (v := .agg #[.int .i64 y0, .int .i64 y1, .int .i64 y2, .int .i64 y3, .int .i64 y4, .int .i64 y5, .slice (some ⟨g, 0, none⟩) 5 5]) (by simp [results, Tryz.results10, go_sem, e0, e1, e2, e3, e4, e5, e6]) rfl ⟨g, c0, c1, c2, c3, c4, rfl, HSF.out, HG3.out, HFF.out, HGL.out⟩
set_option maxRecDepth 20000

theorem own15r_any (g o c : Nat) (c0 c1 c2 c3 c4 : Int) (w : World) (h : Rd intE w (some ⟨g, o, none⟩) c [c0, c1, c2, c3, c4]) :
  Calls Tryz.prog 72 #[.slice (some ⟨g, o, none⟩) 5 c] w fun e w' => e = .returned (.agg #[.int .i64 c0, .int .i64 c1, .int .i64 c2, .int .i64 c3, .int .i64 c4]) ∧ Fresh w w' := by
 have hg := h.lt (by simp) _ rfl
 have hcc : 5 <= c := h.1
 simp only at hg
 have HS := lh h
 clear h
 go_enter Tryz.func72, Tryz.ntmps72
 go_wp2
 have hs := HS.out.alloc (.cells #[.int .i64 0, .int .i64 0, .int .i64 0, .int .i64 0, .int .i64 0] 86)
 have HB := lh (Blk.new w 86 [.int .i64 0, .int .i64 0, .int .i64 0, .int .i64 0, .int .i64 0])
 have HT : Hid (Fresh w (w.alloc (.cells #[.int .i64 0, .int .i64 0, .int .i64 0, .int .i64 0, .int .i64 0] 86))) := (Touch.refl _ w).alloc _
 generalize w.alloc (.cells #[.int .i64 0, .int .i64 0, .int .i64 0, .int .i64 0, .int .i64 0] 86) = wa at *
 have k0 : wa.cell? ⟨g, o, none⟩ = some (.int .i64 c0) := by
  obtain ⟨g', o', e, _, hh⟩ := hs.int_at 0 (by simp)
  injection e with e
  injection e with e1 e2 _
  subst e1 e2
  exact hh
 have k1 : wa.cell? ⟨g, o + 1, none⟩ = some (.int .i64 c1) := by
  obtain ⟨g', o', e, _, hh⟩ := hs.int_at 1 (by simp)
  injection e with e
  injection e with e1 e2 _
  subst e1 e2
  exact hh
 have k2 : wa.cell? ⟨g, o + 2, none⟩ = some (.int .i64 c2) := by
  obtain ⟨g', o', e, _, hh⟩ := hs.int_at 2 (by simp)
  injection e with e
  injection e with e1 e2 _
  subst e1 e2
  exact hh
 have k3 : wa.cell? ⟨g, o + 3, none⟩ = some (.int .i64 c3) := by
  obtain ⟨g', o', e, _, hh⟩ := hs.int_at 3 (by simp)
  injection e with e
  injection e with e1 e2 _
  subst e1 e2
  exact hh
 have k4 : wa.cell? ⟨g, o + 4, none⟩ = some (.int .i64 c4) := by
  obtain ⟨g', o', e, _, hh⟩ := hs.int_at 4 (by simp)
  injection e with e
  injection e with e1 e2 _
  subst e1 e2
  exact hh
 have HW : ∃ gb, gb = w.heap.size := ⟨_, rfl⟩
 obtain ⟨gb, hgb⟩ := HW
 rw [<- hgb] at HB ⊢
 have HGB := lh hgb
 clear hs hgb
 have f0 := HB.out.frozen 0
 have f1 := HB.out.frozen 1
 have f2 := HB.out.frozen 2
 have f3 := HB.out.frozen 3
 have f4 := HB.out.frozen 4
 have d0 : wa.cell? ⟨gb, 0, none⟩ = some (.int .i64 0) := HB.out.cell 0
 have d1 : wa.cell? ⟨gb, 1, none⟩ = some (.int .i64 0) := HB.out.cell 1
 have d2 : wa.cell? ⟨gb, 2, none⟩ = some (.int .i64 0) := HB.out.cell 2
 have d3 : wa.cell? ⟨gb, 3, none⟩ = some (.int .i64 0) := HB.out.cell 3
 have d4 : wa.cell? ⟨gb, 4, none⟩ = some (.int .i64 0) := HB.out.cell 4
 go_still_tail 16, (by kernel_rfl)
 go_wp2
 have hBf : Blk (((((wa.setCell ⟨gb, 0, none⟩ (.int .i64 c0)).setCell ⟨gb, 1, none⟩ (.int .i64 c1)).setCell ⟨gb, 2, none⟩ (.int .i64 c2)).setCell ⟨gb, 3, none⟩ (.int .i64 c3)).setCell ⟨gb, 4, none⟩ (.int .i64 c4)).drew gb 86 [.int .i64 c0, .int .i64 c1, .int .i64 c2, .int .i64 c3, .int .i64 c4] := (((((HB.out.set 0 (.int .i64 c0)).set 1 (.int .i64 c1)).set 2 (.int .i64 c2)).set 3 (.int .i64 c3)).set 4 (.int .i64 c4)).drew
 have hTf : Fresh w (((((wa.setCell ⟨gb, 0, none⟩ (.int .i64 c0)).setCell ⟨gb, 1, none⟩ (.int .i64 c1)).setCell ⟨gb, 2, none⟩ (.int .i64 c2)).setCell ⟨gb, 3, none⟩ (.int .i64 c3)).setCell ⟨gb, 4, none⟩ (.int .i64 c4)).drew := by
  have hgb := HGB.out
  exact (((((HT.out.setCell (fun h => by simp at h; omega) _).setCell (fun h => by simp at h; omega) _).setCell (fun h => by simp at h; omega) _).setCell (fun h => by simp at h; omega) _).setCell (fun h => by simp at h; omega) _).drew
 generalize (((((wa.setCell ⟨gb, 0, none⟩ (.int .i64 c0)).setCell ⟨gb, 1, none⟩ (.int .i64 c1)).setCell ⟨gb, 2, none⟩ (.int .i64 c2)).setCell ⟨gb, 3, none⟩ (.int .i64 c3)).setCell ⟨gb, 4, none⟩ (.int .i64 c4)).drew = wf at *
 have e0 : wf.cell? ⟨gb, 0, none⟩ = some (.int .i64 c0) := hBf.cell 0
 have e1 : wf.cell? ⟨gb, 1, none⟩ = some (.int .i64 c1) := hBf.cell 1
 have e2 : wf.cell? ⟨gb, 2, none⟩ = some (.int .i64 c2) := hBf.cell 2
 have e3 : wf.cell? ⟨gb, 3, none⟩ = some (.int .i64 c3) := hBf.cell 3
 have e4 : wf.cell? ⟨gb, 4, none⟩ = some (.int .i64 c4) := hBf.cell 4
 exact bodyPost_ret (v := .agg #[.int .i64 c0, .int .i64 c1, .int .i64 c2, .int .i64 c3, .int .i64 c4]) (by simp [results, Tryz.results72, go_sem, e0, e1, e2, e3, e4]) rfl ⟨rfl, hTf⟩


theorem own16_any (x0 x1 x2 x3 x4 x5 : Int) (g o c : Nat) (c0 c1 c2 c3 c4 : Int) (w : World) (h : Rd intE w (some ⟨g, o, none⟩) c [c0, c1, c2, c3, c4]) :
  Calls Tryz.prog 22 #[.agg #[.int .i64 x0, .int .i64 x1, .int .i64 x2, .int .i64 x3, .int .i64 x4, .int .i64 x5, .slice (some ⟨g, o, none⟩) 5 c]] w fun e w' => e = .returned (Nd.C.val ⟨x0, x1, x2, x3, x4, x5 % 16777216, c0, c1, c2, c3, c4⟩) ∧ Fresh w w' := by
 have HR := lh h
 clear h
 have HO : Hid (∀ W, Fresh w W -> Calls Tryz.prog 72 #[.slice (some ⟨g, o, none⟩) 5 c] W fun e w' => e = .returned (.agg #[.int .i64 c0, .int .i64 c1, .int .i64 c2, .int .i64 c3, .int .i64 c4]) ∧ Fresh W w') := fun W hW => own15r_any g o c c0 c1 c2 c3 c4 W (HR.out.touch hW (fun _ _ _ e => e))
 have HS := lh (fun W => sof_any x5 W)
 obtain ⟨w0, hw0⟩ := xq ((w.alloc (.cells #[.int .i64 x0, .int .i64 x1, .int .i64 x2, .int .i64 x3, .int .i64 x4, .int .i64 x5, .slice (some ⟨g, o, none⟩) 5 c] 24)).alloc (.cells #[.int .i64 0, .int .i64 0, .int .i64 0, .int .i64 0, .int .i64 0, .int .u32 0, .int .i64 0, .int .i64 0, .int .i64 0, .int .i64 0, .int .i64 0] 88))
 have HF : Hid (Fresh w w0) := by rw [hw0]; exact ((Touch.refl _ _).alloc _).alloc _
 obtain ⟨bg, hbg⟩ := xq w.heap.size
 obtain ⟨br, hbr⟩ := xq (w.heap.size + 1)
 have HB : Hid (Blk w0 bg 24 [.int .i64 x0, .int .i64 x1, .int .i64 x2, .int .i64 x3, .int .i64 x4, .int .i64 x5, .slice (some ⟨g, o, none⟩) 5 c]) := by rw [hw0, hbg]; exact (Blk.new w _ _).alloc _
 have HBR : Hid (Blk w0 br 88 [.int .i64 0, .int .i64 0, .int .i64 0, .int .i64 0, .int .i64 0, .int .u32 0, .int .i64 0, .int .i64 0, .int .i64 0, .int .i64 0, .int .i64 0]) := by
  have := Blk.new (w.alloc (.cells #[.int .i64 x0, .int .i64 x1, .int .i64 x2, .int .i64 x3, .int .i64 x4, .int .i64 x5, .slice (some ⟨g, o, none⟩) 5 c] 24)) 88 [.int .i64 0, .int .i64 0, .int .i64 0, .int .i64 0, .int .i64 0, .int .u32 0, .int .i64 0, .int .i64 0, .int .i64 0, .int .i64 0, .int .i64 0]
  rw [hw0, hbr]
  unfold Hid
  simpa using this
 have HNE : Hid (bg ≠ br ∧ w.heap.size <= br) := by unfold Hid; omega
 have HKEEP : Hid (∀ wx, Touch (· = br) w0 wx -> wx.cell? ⟨bg, 0, none⟩ = some (.int .i64 x0) ∧ wx.cell? ⟨bg, 1, none⟩ = some (.int .i64 x1) ∧ wx.cell? ⟨bg, 2, none⟩ = some (.int .i64 x2) ∧ wx.cell? ⟨bg, 3, none⟩ = some (.int .i64 x3) ∧ wx.cell? ⟨bg, 4, none⟩ = some (.int .i64 x4) ∧ wx.cell? ⟨bg, 5, none⟩ = some (.int .i64 x5) ∧ wx.cell? ⟨bg, 6, none⟩ = some (.slice (some ⟨g, o, none⟩) 5 c)) := fun wx ht => by
  have hb := ht.blk HB.out HNE.out.1
  exact ⟨hb.cell 0, hb.cell 1, hb.cell 2, hb.cell 3, hb.cell 4, hb.cell 5, hb.cell 6⟩
 go_enter Tryz.func22, Tryz.ntmps22
 go_wp2_with fail
 rw [<- hw0, <- hbr, <- hbg]
 clear hw0 hbr hbg
 have hne1 : ¬ bg = br := HNE.out.1
 have hne2 : ¬ br = bg := fun e => hne1 e.symm
 have d0 : w0.cell? ⟨bg, 0, none⟩ = some (.int .i64 x0) := HB.out.cell 0
 have d1 : w0.cell? ⟨bg, 1, none⟩ = some (.int .i64 x1) := HB.out.cell 1
 have d2 : w0.cell? ⟨bg, 2, none⟩ = some (.int .i64 x2) := HB.out.cell 2
 have d3 : w0.cell? ⟨bg, 3, none⟩ = some (.int .i64 x3) := HB.out.cell 3
 have d4 : w0.cell? ⟨bg, 4, none⟩ = some (.int .i64 x4) := HB.out.cell 4
 have d5 : w0.cell? ⟨bg, 5, none⟩ = some (.int .i64 x5) := HB.out.cell 5
 have d6 : w0.cell? ⟨bg, 6, none⟩ = some (.slice (some ⟨g, o, none⟩) 5 c) := HB.out.cell 6
 go_region_held3 (fun wx => wx.cell? ⟨bg, 0, none⟩ = some (.int .i64 x0) ∧ wx.cell? ⟨bg, 1, none⟩ = some (.int .i64 x1) ∧ wx.cell? ⟨bg, 2, none⟩ = some (.int .i64 x2) ∧ wx.cell? ⟨bg, 3, none⟩ = some (.int .i64 x3) ∧ wx.cell? ⟨bg, 4, none⟩ = some (.int .i64 x4) ∧ wx.cell? ⟨bg, 5, none⟩ = some (.int .i64 x5) ∧ wx.cell? ⟨bg, 6, none⟩ = some (.slice (some ⟨g, o, none⟩) 5 c))
  (with_reducible refine HKEEP.out _ ?_; repeat (first | with_reducible exact Touch.refl _ _ | with_reducible exact HT3.out | with_reducible refine Touch.drew ?_ | with_reducible refine Touch.st ?_ rfl))
  (first
   |(go_simp; go_at_call 48; with_reducible refine (HS.out _).mono ?_; rintro e w2 ⟨rfl, rfl⟩)
   |(go_simp; go_at_call 72; with_reducible refine (HO.out _ HF.out.drew).mono ?_; rintro e w3 ⟨rfl, f3⟩
     have HT3 : Hid (Touch (· = br) w0 w3) := ((Touch.refl _ _).drew).trans f3 (fun _ _ e => e.elim)
     have HR3 : Hid (Blk w3 br 88 [.int .i64 0, .int .i64 0, .int .i64 0, .int .i64 0, .int .i64 0, .int .u32 0, .int .i64 0, .int .i64 0, .int .i64 0, .int .i64 0, .int .i64 0]) := f3.blk HBR.out.drew (fun e => e)
     have HF3 : Hid (Fresh w w3) := HF.out.drew.trans f3 (fun _ _ e => e)
     have z0 : w3.cell? ⟨br, 0, none⟩ = some (.int .i64 0) := HR3.out.cell 0
     have z1 : w3.cell? ⟨br, 1, none⟩ = some (.int .i64 0) := HR3.out.cell 1
     have z2 : w3.cell? ⟨br, 2, none⟩ = some (.int .i64 0) := HR3.out.cell 2
     have z3 : w3.cell? ⟨br, 3, none⟩ = some (.int .i64 0) := HR3.out.cell 3
     have z4 : w3.cell? ⟨br, 4, none⟩ = some (.int .i64 0) := HR3.out.cell 4
     have z5 : w3.cell? ⟨br, 5, none⟩ = some (.int .u32 0) := HR3.out.cell 5
     have z6 : w3.cell? ⟨br, 6, none⟩ = some (.int .i64 0) := HR3.out.cell 6
     have z7 : w3.cell? ⟨br, 7, none⟩ = some (.int .i64 0) := HR3.out.cell 7
     have z8 : w3.cell? ⟨br, 8, none⟩ = some (.int .i64 0) := HR3.out.cell 8
     have z9 : w3.cell? ⟨br, 9, none⟩ = some (.int .i64 0) := HR3.out.cell 9
     have z10 : w3.cell? ⟨br, 10, none⟩ = some (.int .i64 0) := HR3.out.cell 10
     have q0 := HR3.out.frozen 0
     have q1 := HR3.out.frozen 1
     have q2 := HR3.out.frozen 2
     have q3 := HR3.out.frozen 3
     have q4 := HR3.out.frozen 4
     have q5 := HR3.out.frozen 5
     have q6 := HR3.out.frozen 6
     have q7 := HR3.out.frozen 7
     have q8 := HR3.out.frozen 8
     have q9 := HR3.out.frozen 9
     have q10 := HR3.out.frozen 10
     clear f3))
 all_goals
  have hk : ∀ i, (⟨br, i, none⟩ : Addr).block < w.heap.size -> False := fun i e => by have e : br < w.heap.size := e; have := HNE.out.2; omega
  have HFF := lh (((((((((((HF3.out.setCell (hk 0) (.int .i64 x0)).setCell (hk 1) (.int .i64 x1)).setCell (hk 2) (.int .i64 x2)).setCell (hk 3) (.int .i64 x3)).setCell (hk 4) (.int .i64 x4)).setCell (hk 5) (.int .u32 (x5 % 16777216))).setCell (hk 6) (.int .i64 c0)).setCell (hk 7) (.int .i64 c1)).setCell (hk 8) (.int .i64 c2)).setCell (hk 9) (.int .i64 c3)).setCell (hk 10) (.int .i64 c4))
  have HBF := lh (((((((((((HR3.out.set 0 (.int .i64 x0)).set 1 (.int .i64 x1)).set 2 (.int .i64 x2)).set 3 (.int .i64 x3)).set 4 (.int .i64 x4)).set 5 (.int .u32 (x5 % 16777216))).set 6 (.int .i64 c0)).set 7 (.int .i64 c1)).set 8 (.int .i64 c2)).set 9 (.int .i64 c3)).set 10 (.int .i64 c4))
  clear hk
  go_wp2
  have e0 := HBF.out.cell 0
  have e1 := HBF.out.cell 1
  have e2 := HBF.out.cell 2
  have e3 := HBF.out.cell 3
  have e4 := HBF.out.cell 4
  have e5 := HBF.out.cell 5
  have e6 := HBF.out.cell 6
  have e7 := HBF.out.cell 7
  have e8 := HBF.out.cell 8
  have e9 := HBF.out.cell 9
  have e10 := HBF.out.cell 10
  simp only [List.set_cons_zero, List.set_cons_succ, List.getElem?_cons_zero, List.getElem?_cons_succ] at e0 e1 e2 e3 e4 e5 e6 e7 e8 e9 e10
  exact bodyPost_ret (v := Nd.C.val ⟨x0, x1, x2, x3, x4, x5 % 16777216, c0, c1, c2, c3, c4⟩) (by simp [Nd.C.val, results, Tryz.results22, go_sem, e0, e1, e2, e3, e4, e5, e6, e7, e8, e9, e10]) rfl ⟨rfl, HFF.out⟩
end Go.Proofs.YtipaobpmojahaaaGreat
