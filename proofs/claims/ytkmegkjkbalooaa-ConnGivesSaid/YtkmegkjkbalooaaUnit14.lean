/-
  polliwoglaw14: Own; the unit of an act.
-/
import Derived.Test.YtkmegkjkbalooaaRi14
import Derived.Test.YtkmegkjkbalooaaSame14
import Derived.Test.YtkmegkjkbalooaaSeq
import Derived.Deep.RegionHeld3
namespace Go.Proofs.Ytkmegkjkbalooaa
open Go.RowKit

set_option maxHeartbeats 2000000 in
set_option maxRecDepth 100000 in
theorem own14_any (kd sq n : Int) (sf : Bool) (da : ByteArray) (w : World) (hk : (kd == 12) = false) :
    Calls Try.prog 60 #[.agg #[.int .i64 kd, .int .i64 sq, .int .i64 n, .bool sf, .string da]] w fun e w' => e = .returned (pduV ⟨kd, sq, n % 16777216, 0, 0, none, 0, 0, sf, da⟩) ∧ Fresh w w' := by
  unfold pduV
  have HOF := Lib.hid (fun W => sof_any n W)
  have HF : Hid (Fresh w ((w.alloc (.cells #[.int .i64 kd, .int .i64 sq, .int .i64 n, .bool sf, .string da] 110)).alloc (.cells #[.int .i64 0, .int .i64 0, .int .u32 0, .int .u32 0, .int .u32 0, .slice none 0 0, .bool false, .string { data := #[] }] 54))) := ((Touch.refl _ w).alloc _).alloc _
  have HB : Hid (Blk ((w.alloc (.cells #[.int .i64 kd, .int .i64 sq, .int .i64 n, .bool sf, .string da] 110)).alloc (.cells #[.int .i64 0, .int .i64 0, .int .u32 0, .int .u32 0, .int .u32 0, .slice none 0 0, .bool false, .string { data := #[] }] 54)) w.heap.size 110 [.int .i64 kd, .int .i64 sq, .int .i64 n, .bool sf, .string da]) := (Blk.new w 110 [.int .i64 kd, .int .i64 sq, .int .i64 n, .bool sf, .string da]).alloc _
  have HZ : Hid (Blk ((w.alloc (.cells #[.int .i64 kd, .int .i64 sq, .int .i64 n, .bool sf, .string da] 110)).alloc (.cells #[.int .i64 0, .int .i64 0, .int .u32 0, .int .u32 0, .int .u32 0, .slice none 0 0, .bool false, .string { data := #[] }] 54)) (w.heap.size + 1) 54 [.int .i64 0, .int .i64 0, .int .u32 0, .int .u32 0, .int .u32 0, .slice none 0 0, .bool false, .string { data := #[] }]) := by
    have := Blk.new (w.alloc (.cells #[.int .i64 kd, .int .i64 sq, .int .i64 n, .bool sf, .string da] 110)) 54 [.int .i64 0, .int .i64 0, .int .u32 0, .int .u32 0, .int .u32 0, .slice none 0 0, .bool false, .string { data := #[] }]
    rwa [show (w.alloc (.cells #[.int .i64 kd, .int .i64 sq, .int .i64 n, .bool sf, .string da] 110)).heap.size = w.heap.size + 1 by simp] at this
  go_enter Try.func60, Try.ntmps60
  go_upto_region 1 with (fail)
  generalize ((w.alloc (.cells #[.int .i64 kd, .int .i64 sq, .int .i64 n, .bool sf, .string da] 110)).alloc (.cells #[.int .i64 0, .int .i64 0, .int .u32 0, .int .u32 0, .int .u32 0, .slice none 0 0, .bool false, .string { data := #[] }] 54)) = w1 at *
  have HGE0 : Hid (w.heap.size ≤ w.heap.size + 1) := Nat.le_succ _
  generalize hgg : w.heap.size = g at *
  have HGE0 : Hid (w.heap.size ≤ g + 1) := by unfold Hid; omega
  clear hgg
  have d0 : w1.cell? ⟨g, 0, none⟩ = some (.int .i64 kd) := HB.out.cell 0
  have d1 : w1.cell? ⟨g, 1, none⟩ = some (.int .i64 sq) := HB.out.cell 1
  have d2 : w1.cell? ⟨g, 2, none⟩ = some (.int .i64 n) := HB.out.cell 2
  have d3 : w1.cell? ⟨g, 3, none⟩ = some (.bool sf) := HB.out.cell 3
  have d4 : w1.cell? ⟨g, 4, none⟩ = some (.string da) := HB.out.cell 4
  have e0 : ∀ o, (w1.alloc o).cell? ⟨g, 0, none⟩ = some (.int .i64 kd) := fun o => (HB.out.alloc o).cell 0
  have e1 : ∀ o, (w1.alloc o).cell? ⟨g, 1, none⟩ = some (.int .i64 sq) := fun o => (HB.out.alloc o).cell 1
  have e2 : ∀ o, (w1.alloc o).cell? ⟨g, 2, none⟩ = some (.int .i64 n) := fun o => (HB.out.alloc o).cell 2
  have e3 : ∀ o, (w1.alloc o).cell? ⟨g, 3, none⟩ = some (.bool sf) := fun o => (HB.out.alloc o).cell 3
  have e4 : ∀ o, (w1.alloc o).cell? ⟨g, 4, none⟩ = some (.string da) := fun o => (HB.out.alloc o).cell 4
  go_region_held3 (fun wx => wx.cell? ⟨g, 0, none⟩ = some (.int .i64 kd) ∧ wx.cell? ⟨g, 1, none⟩ = some (.int .i64 sq) ∧ wx.cell? ⟨g, 2, none⟩ = some (.int .i64 n) ∧ wx.cell? ⟨g, 3, none⟩ = some (.bool sf) ∧ wx.cell? ⟨g, 4, none⟩ = some (.string da))
    (first
      | exact ⟨d0, d1, d2, d3, d4⟩
      | exact ⟨e0 _, e1 _, e2 _, e3 _, e4 _⟩
      | assumption)
    (first
      | (go_simp; go_at_call 73; refine (HOF.out _).mono ?_; rintro e w2 ⟨rfl, rfl⟩))
  all_goals
    rename_i hH
    clear hH d0 d1 d2 d3 d4 e0 e1 e2 e3 e4
    have HF2 : Hid (Fresh w (w1.alloc (.cells #[.int .i64 kd, .int .i64 sq, .int .u32 (n % 16777216), .int .u32 0, .int .u32 0, .slice none 0 0, .bool sf, .string da] 54)).drew) := (HF.out.alloc _).drew
    have HB2 : Hid (Blk (w1.alloc (.cells #[.int .i64 kd, .int .i64 sq, .int .u32 (n % 16777216), .int .u32 0, .int .u32 0, .slice none 0 0, .bool sf, .string da] 54)).drew g 110 [.int .i64 kd, .int .i64 sq, .int .i64 n, .bool sf, .string da]) := Blk.drew (HB.out.alloc _)
    have HZ2 : Hid (Blk (w1.alloc (.cells #[.int .i64 kd, .int .i64 sq, .int .u32 (n % 16777216), .int .u32 0, .int .u32 0, .slice none 0 0, .bool sf, .string da] 54)).drew (g + 1) 54 [.int .i64 0, .int .i64 0, .int .u32 0, .int .u32 0, .int .u32 0, .slice none 0 0, .bool false, .string { data := #[] }]) := Blk.drew (HZ.out.alloc _)
    have HP2 : Hid (Blk (w1.alloc (.cells #[.int .i64 kd, .int .i64 sq, .int .u32 (n % 16777216), .int .u32 0, .int .u32 0, .slice none 0 0, .bool sf, .string da] 54)).drew w1.heap.size 54 [.int .i64 kd, .int .i64 sq, .int .u32 (n % 16777216), .int .u32 0, .int .u32 0, .slice none 0 0, .bool sf, .string da]) := Blk.drew (Blk.new w1 _ [.int .i64 kd, .int .i64 sq, .int .u32 (n % 16777216), .int .u32 0, .int .u32 0, .slice none 0 0, .bool sf, .string da])
    have HGE : Hid (w.heap.size ≤ g + 1) := HGE0.out
    clear HF HB HZ
    generalize (w1.alloc (.cells #[.int .i64 kd, .int .i64 sq, .int .u32 (n % 16777216), .int .u32 0, .int .u32 0, .slice none 0 0, .bool sf, .string da] 54)).drew = w2 at *
    generalize w1.heap.size = b at *
    have d0 : w2.cell? ⟨g, 0, none⟩ = some (.int .i64 kd) := HB2.out.cell 0
    have a0 : w2.cell? ⟨b, 0, none⟩ = some (.int .i64 kd) := HP2.out.cell 0
    have a1 : w2.cell? ⟨b, 1, none⟩ = some (.int .i64 sq) := HP2.out.cell 1
    have a2 : w2.cell? ⟨b, 2, none⟩ = some (.int .u32 (n % 16777216)) := HP2.out.cell 2
    have a3 : w2.cell? ⟨b, 3, none⟩ = some (.int .u32 0) := HP2.out.cell 3
    have a4 : w2.cell? ⟨b, 4, none⟩ = some (.int .u32 0) := HP2.out.cell 4
    have a5 : w2.cell? ⟨b, 5, none⟩ = some (.slice none 0 0) := HP2.out.cell 5
    have a6 : w2.cell? ⟨b, 6, none⟩ = some (.bool sf) := HP2.out.cell 6
    have a7 : w2.cell? ⟨b, 7, none⟩ = some (.string da) := HP2.out.cell 7
    have z0 : w2.cell? ⟨g + 1, 0, none⟩ = some (.int .i64 0) := HZ2.out.cell 0
    have f0 := HZ2.out.frozen 0
    have z1 : w2.cell? ⟨g + 1, 1, none⟩ = some (.int .i64 0) := HZ2.out.cell 1
    have f1 := HZ2.out.frozen 1
    have z2 : w2.cell? ⟨g + 1, 2, none⟩ = some (.int .u32 0) := HZ2.out.cell 2
    have f2 := HZ2.out.frozen 2
    have z3 : w2.cell? ⟨g + 1, 3, none⟩ = some (.int .u32 0) := HZ2.out.cell 3
    have f3 := HZ2.out.frozen 3
    have z4 : w2.cell? ⟨g + 1, 4, none⟩ = some (.int .u32 0) := HZ2.out.cell 4
    have f4 := HZ2.out.frozen 4
    have z5 : w2.cell? ⟨g + 1, 5, none⟩ = some (.slice none 0 0) := HZ2.out.cell 5
    have f5 := HZ2.out.frozen 5
    have z6 : w2.cell? ⟨g + 1, 6, none⟩ = some (.bool false) := HZ2.out.cell 6
    have f6 := HZ2.out.frozen 6
    have z7 : w2.cell? ⟨g + 1, 7, none⟩ = some (.string { data := #[] }) := HZ2.out.cell 7
    have f7 := HZ2.out.frozen 7
    have HB3 : Blk ((((((((w2.setCell ⟨g + 1, 0, none⟩ (.int .i64 kd)).setCell ⟨g + 1, 1, none⟩ (.int .i64 sq)).setCell ⟨g + 1, 2, none⟩ (.int .u32 (n % 16777216))).setCell ⟨g + 1, 3, none⟩ (.int .u32 0)).setCell ⟨g + 1, 4, none⟩ (.int .u32 0)).setCell ⟨g + 1, 5, none⟩ (.slice none 0 0)).setCell ⟨g + 1, 6, none⟩ (.bool sf)).setCell ⟨g + 1, 7, none⟩ (.string da)) (g + 1) 54 [.int .i64 kd, .int .i64 sq, .int .u32 (n % 16777216), .int .u32 0, .int .u32 0, .slice none 0 0, .bool sf, .string da] := ((((((((HZ2.out.set 0 (.int .i64 kd)).set 1 (.int .i64 sq)).set 2 (.int .u32 (n % 16777216))).set 3 (.int .u32 0)).set 4 (.int .u32 0)).set 5 (.slice none 0 0)).set 6 (.bool sf)).set 7 (.string da))
    have HT3 : Touch (· = g + 1) w2 ((((((((w2.setCell ⟨g + 1, 0, none⟩ (.int .i64 kd)).setCell ⟨g + 1, 1, none⟩ (.int .i64 sq)).setCell ⟨g + 1, 2, none⟩ (.int .u32 (n % 16777216))).setCell ⟨g + 1, 3, none⟩ (.int .u32 0)).setCell ⟨g + 1, 4, none⟩ (.int .u32 0)).setCell ⟨g + 1, 5, none⟩ (.slice none 0 0)).setCell ⟨g + 1, 6, none⟩ (.bool sf)).setCell ⟨g + 1, 7, none⟩ (.string da)) := (((((((((Touch.refl _ w2).st (S := (· = g + 1)) (u := .int .i64 kd) (by exact rfl)).st (S := (· = g + 1)) (u := .int .i64 sq) (by exact rfl)).st (S := (· = g + 1)) (u := .int .u32 (n % 16777216)) (by exact rfl)).st (S := (· = g + 1)) (u := .int .u32 0) (by exact rfl)).st (S := (· = g + 1)) (u := .int .u32 0) (by exact rfl)).st (S := (· = g + 1)) (u := .slice none 0 0) (by exact rfl)).st (S := (· = g + 1)) (u := .bool sf) (by exact rfl)).st (S := (· = g + 1)) (u := .string da) (by exact rfl))
    have HF3 : Hid (Fresh w ((((((((w2.setCell ⟨g + 1, 0, none⟩ (.int .i64 kd)).setCell ⟨g + 1, 1, none⟩ (.int .i64 sq)).setCell ⟨g + 1, 2, none⟩ (.int .u32 (n % 16777216))).setCell ⟨g + 1, 3, none⟩ (.int .u32 0)).setCell ⟨g + 1, 4, none⟩ (.int .u32 0)).setCell ⟨g + 1, 5, none⟩ (.slice none 0 0)).setCell ⟨g + 1, 6, none⟩ (.bool sf)).setCell ⟨g + 1, 7, none⟩ (.string da))) := HF2.out.trans HT3 (fun j hj e => by have e : j = g + 1 := e; have := HGE.out; omega)
    go_wp2
    generalize ((((((((w2.setCell ⟨g + 1, 0, none⟩ (.int .i64 kd)).setCell ⟨g + 1, 1, none⟩ (.int .i64 sq)).setCell ⟨g + 1, 2, none⟩ (.int .u32 (n % 16777216))).setCell ⟨g + 1, 3, none⟩ (.int .u32 0)).setCell ⟨g + 1, 4, none⟩ (.int .u32 0)).setCell ⟨g + 1, 5, none⟩ (.slice none 0 0)).setCell ⟨g + 1, 6, none⟩ (.bool sf)).setCell ⟨g + 1, 7, none⟩ (.string da)) = w3 at *
    have y0 : w3.cell? ⟨g + 1, 0, none⟩ = some (.int .i64 kd) := HB3.cell 0
    have y1 : w3.cell? ⟨g + 1, 1, none⟩ = some (.int .i64 sq) := HB3.cell 1
    have y2 : w3.cell? ⟨g + 1, 2, none⟩ = some (.int .u32 (n % 16777216)) := HB3.cell 2
    have y3 : w3.cell? ⟨g + 1, 3, none⟩ = some (.int .u32 0) := HB3.cell 3
    have y4 : w3.cell? ⟨g + 1, 4, none⟩ = some (.int .u32 0) := HB3.cell 4
    have y5 : w3.cell? ⟨g + 1, 5, none⟩ = some (.slice none 0 0) := HB3.cell 5
    have y6 : w3.cell? ⟨g + 1, 6, none⟩ = some (.bool sf) := HB3.cell 6
    have y7 : w3.cell? ⟨g + 1, 7, none⟩ = some (.string da) := HB3.cell 7
    exact bodyPost_ret (v := _) (by simp [results, Try.results60, go_sem, y0, y1, y2, y3, y4, y5, y6, y7]) rfl ⟨rfl, HF3.out⟩

theorem cut_nil (n : Int) (hn : 0 ≤ n) (w : World) : Calls Try.prog 52 #[.string { data := #[] }, .int .i64 n] w fun e w' => e = .returned (.string { data := #[] }) ∧ w' = w := by
  have hd : decide (n < 0) = false := decide_eq_false (by omega)
  go_enter Try.func52, Try.ntmps52
  go_wp2
  go_ret
  exact ⟨rfl, rfl⟩

/-- An act's value. -/
def actV (kind n unit which sq : Int) : Value := .agg #[.int .i64 kind, .int .i64 n, .int .i64 unit, .int .i64 which, .int .i64 sq, .bool false, .string { data := #[] }]

set_option maxHeartbeats 2000000 in
set_option maxRecDepth 100000 in
theorem unit_bgn (s : Cn.S) (w : World) : Calls Try.prog 61 #[actV 0 0 0 2 7, rcV s] w fun e w' => e = .returned (ruV ⟨1, 7, 0, 0, 0, none, 0, 0, false, { data := #[] }⟩) ∧ Fresh w w' := by
  unfold actV rcV ruV
  dsimp only
  have b0_255 : bits .and .i64 0 255 = 0 := by decide +kernel
  have b0_65535 : bits .and .i64 0 65535 = 0 := by decide +kernel
  have b2_3 : bits .and .i64 2 3 = 2 := by decide +kernel
  have b7_255 : bits .and .i64 7 255 = 7 := by decide +kernel
  go_enter Try.func61, Try.ntmps61
  go_wp2_with (first | (go_at_call 52; refine (cut_nil 20 (by decide) _).mono ?_; rintro e w2 ⟨rfl, rfl⟩))
  exact bodyPost_ret (v := _) (by simp [results, Try.results61, go_sem]) rfl ⟨rfl, ((((Touch.refl _ _).alloc _).alloc _).alloc _).alloc _⟩

set_option maxHeartbeats 2000000 in
set_option maxRecDepth 100000 in
theorem unit_rs (s : Cn.S) (w : World) : Calls Try.prog 61 #[actV 0 0 4 2 8, rcV s] w fun e w' => e = .returned (ruV ⟨5, 8, 0, 0, 0, none, 0, 0, false, { data := #[] }⟩) ∧ Fresh w w' := by
  unfold actV rcV ruV
  dsimp only
  have b0_65535 : bits .and .i64 0 65535 = 0 := by decide +kernel
  have b2_3 : bits .and .i64 2 3 = 2 := by decide +kernel
  have b4_255 : bits .and .i64 4 255 = 4 := by decide +kernel
  have b8_255 : bits .and .i64 8 255 = 8 := by decide +kernel
  go_enter Try.func61, Try.ntmps61
  go_wp2_with (first | (go_at_call 52; refine (cut_nil 20 (by decide) _).mono ?_; rintro e w2 ⟨rfl, rfl⟩))
  exact bodyPost_ret (v := _) (by simp [results, Try.results61, go_sem]) rfl ⟨rfl, ((((Touch.refl _ _).alloc _).alloc _).alloc _).alloc _⟩

set_option maxHeartbeats 2000000 in
set_option maxRecDepth 100000 in
theorem unit_er (s : Cn.S) (w : World) : Calls Try.prog 61 #[actV 0 0 8 2 8, rcV s] w fun e w' => e = .returned (ruV ⟨9, 8, 0, 0, 0, none, 0, 0, false, { data := #[] }⟩) ∧ Fresh w w' := by
  unfold actV rcV ruV
  dsimp only
  have b0_65535 : bits .and .i64 0 65535 = 0 := by decide +kernel
  have b2_3 : bits .and .i64 2 3 = 2 := by decide +kernel
  have b8_255 : bits .and .i64 8 255 = 8 := by decide +kernel
  go_enter Try.func61, Try.ntmps61
  go_wp2_with (first | (go_at_call 52; refine (cut_nil 20 (by decide) _).mono ?_; rintro e w2 ⟨rfl, rfl⟩))
  exact bodyPost_ret (v := _) (by simp [results, Try.results61, go_sem]) rfl ⟨rfl, ((((Touch.refl _ _).alloc _).alloc _).alloc _).alloc _⟩

set_option maxHeartbeats 2000000 in
set_option maxRecDepth 100000 in
theorem unit_erak (s : Cn.S) (w : World) : Calls Try.prog 61 #[actV 0 0 14 0 0, rcV s] w fun e w' => e = .returned (ruV ⟨15, s.sq, 0, 0, 0, none, 0, 0, false, { data := #[] }⟩) ∧ Fresh w w' := by
  unfold actV rcV ruV
  dsimp only
  have b0_3 : bits .and .i64 0 3 = 0 := by decide +kernel
  have b0_255 : bits .and .i64 0 255 = 0 := by decide +kernel
  have b0_65535 : bits .and .i64 0 65535 = 0 := by decide +kernel
  have b14_255 : bits .and .i64 14 255 = 14 := by decide +kernel
  go_enter Try.func61, Try.ntmps61
  go_wp2_with (first | (go_at_call 52; refine (cut_nil 20 (by decide) _).mono ?_; rintro e w2 ⟨rfl, rfl⟩))
  exact bodyPost_ret (v := _) (by simp [results, Try.results61, go_sem]) rfl ⟨rfl, ((((Touch.refl _ _).alloc _).alloc _).alloc _).alloc _⟩
end Go.Proofs.Ytkmegkjkbalooaa
