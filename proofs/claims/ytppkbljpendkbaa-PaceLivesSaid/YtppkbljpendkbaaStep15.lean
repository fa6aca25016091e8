/-
  polliwoglaw15: Is, step: a call on both.
-/
import Derived.Test.YtppkbljpendkbaaRef15d
namespace Go.Proofs.Ytppkbljpendkbaa
open Go.RowKit

set_option maxHeartbeats 4000000 in
theorem is15_any (gp : Nat) (c0 c1 c2 c3 c4 : Int) (Tk Lf : Option Addr) (ck cl : Nat) (l : List Int) (w : World) (h : Pk w gp l c0 c1 c2 c3 c4) (hcl : Sl intE w Lf cl l) :
    Calls Try.prog 22 #[.pointer (some ⟨gp, 0, none⟩), .agg #[.slice Tk 5 ck, .slice Lf 5 cl]] w fun e w' => e = .returned (.bool true) ∧ Fresh w w' := by
  have hl5 := h.1
  have HL5 := Lib.hid hl5
  obtain ⟨gl, ol, rfl⟩ := hcl.some5 (by omega)
  have HP : Hid (Pk (w.alloc (.cells #[.slice Tk 5 ck, .slice (some ⟨gl, ol, none⟩) 5 cl] 46)) gp l c0 c1 c2 c3 c4) := Bk.alloc h _
  have HL := Lib.hid (hcl.alloc (.cells #[.slice Tk 5 ck, .slice (some ⟨gl, ol, none⟩) 5 cl] 46))
  have HB := Lib.hid (Blk.new w 46 [.slice Tk 5 ck, .slice (some ⟨gl, ol, none⟩) 5 cl])
  have HF : Hid (Fresh w (w.alloc (.cells #[.slice Tk 5 ck, .slice (some ⟨gl, ol, none⟩) 5 cl] 46))) := (Touch.refl _ w).alloc _
  clear h hcl hl5
  go_enter Try.func22, Try.ntmps22
  go_upto_region 1 with (fail)
  obtain ⟨w1, hw1⟩ : ∃ w1, w1 = (w.alloc (.cells #[.slice Tk 5 ck, .slice (some ⟨gl, ol, none⟩) 5 cl] 46)) := ⟨_, rfl⟩
  rw [← hw1] at HP HL HB HF ⊢
  obtain ⟨gb, hgb⟩ : ∃ gb, gb = w.heap.size := ⟨_, rfl⟩
  rw [← hgb] at HB ⊢
  clear hw1 hgb
  have b0 : w1.cell? ⟨gb, 0, none⟩ = some (.slice Tk 5 ck) := HB.out.cell 0
  have b1 : w1.cell? ⟨gb, 1, none⟩ = some (.slice (some ⟨gl, ol, none⟩) 5 cl) := HB.out.cell 1
  go_wp2_with fail
  go_loop [10] (fun i => ∃ k : Nat, k ≤ 5 ∧ i = .int .i64 k) (fun i => 5 - (intOf i).toNat)
  case atStart => exact ⟨0, by omega, rfl⟩
  case round =>
    obtain ⟨k, hk, rfl⟩ := hrel
    by_cases hlt : k < 5
    · have hki : (k : Int) < 5 := by omega
      have hx := HL.out.int_atg k (by have := HL5.out; omega)
      have hlx := tm_left l k hlt
      obtain ⟨x, hxx⟩ : ∃ x, x = l.getD k 0 := ⟨_, rfl⟩
      rw [← hxx] at hx hlx
      have HR1 : Hid (∀ w, Pk w gp l c0 c1 c2 c3 c4 → Calls Try.prog 17 #[.pointer (some ⟨gp, 0, none⟩), .int .i64 (k : Int)] w fun e w' => e = .returned (.int .i64 x) ∧ w = w') := fun w h => by
        have := left_any gp _ l _ (k : Int) w h
        rw [hlx] at this
        exact this
      have HR2 : Hid (∀ w, Pk w gp l c0 c1 c2 c3 c4 → Calls Try.prog 13 #[.pointer (some ⟨gp, 0, none⟩), .int .i64 (k : Int)] w fun e w' => e = .returned (.bool (decide (0 < x))) ∧ w = w') := fun w h => by
        have := runs_any gp _ l _ (k : Int) w h
        rw [hlx] at this
        exact this
      clear hlx hxx
      go_wp2_with fail
      refine (HR1.out w1 HP.out).mono ?_
      rintro e w2 ⟨rfl, rfl⟩
      go_wp2_with fail
      refine (HR2.out w1 HP.out).mono ?_
      rintro e w2 ⟨rfl, rfl⟩
      go_wp2
      go_round
      case rel => exact ⟨k + 1, by omega, by go_num⟩
      case measure => simp [intOf]; omega
    · have hki : ¬ (k : Int) < 5 := by omega
      go_wp2
      go_region_held3 (fun wx => wx.cell? ⟨gb, 0, none⟩ = some (.slice Tk 5 ck) ∧ wx.cell? ⟨gb, 1, none⟩ = some (.slice (some ⟨gl, ol, none⟩) 5 cl))
        (first | exact ⟨HB.out.cell 0, HB.out.cell 1⟩ | exact ⟨(t3.blk HB.out (fun h => h)).cell 0, (t3.blk HB.out (fun h => h)).cell 1⟩)
        (first
         | (go_at_call 14; refine (safe_any gp l c0 c1 c2 c3 c4 _ (by first | exact HP.out | exact Bk.touch HP.out t3 (fun h => h))).mono ?_; rintro e w2 ⟨rfl, rfl⟩)
         | (go_at_call 24; refine (ref_safe Tk _ ck cl l _ HL5.out (by exact HL.out)).mono ?_; rintro e w3 ⟨rfl, t3⟩))
      all_goals
        go_wp2
        go_ret
        exact ⟨rfl, (HF.out.drew).trans t3 (fun _ _ h => h)⟩
end Go.Proofs.Ytppkbljpendkbaa
