/-
  NodeConfigs: which configs may be is as the document says. No conditions.
-/
import Derived.Test.YtimhjdepngmejaaGreatNdAw
import Derived.Test.YtimhjdepngmejaaGreatNdFc
import Derived.Deep.Cut
namespace Go.Proofs.YtimhjdepngmejaaGreat
open Go.RowKit
set_option maxRecDepth 20000

theorem Nd.C.ok_rok {x0 x1 x2 x3 x4 v c0 c1 c2 c3 c4 : Int} (h0 : 0 ≤ v) : Nd.C.ok ⟨x0, x1, x2, x3, x4, v, c0, c1, c2, c3, c4⟩ = Nd.rok x0 x1 x2 x3 x4 v (Nd.okP c0 c1 c2 c3 c4) := by
  have h : (v == v % 16777216) = (decide (0 ≤ v) && decide (v ≤ 16777215)) := by
    rw [decide_eq_true h0, Bool.true_and]
    by_cases h1 : v ≤ 16777215
    · rw [decide_eq_true h1]
      simp only [beq_iff_eq]
      omega
    · rw [decide_eq_false h1]
      simp only [beq_eq_false_iff_ne]
      omega
  show (Nd.inb x0 16 && Nd.inb x1 64 && Nd.inb x2 256 && Nd.inb x3 64 && Nd.inb x4 256 && (v == v % 16777216) && Nd.okP c0 c1 c2 c3 c4) = _
  rw [h]
  rfl

set_option maxHeartbeats 4000000 in
theorem nodeConfigs_dev (x0 x1 x2 x3 x4 x5 : Int) (A : Option Addr) (c : Nat) (L : List Int) (W : World) (h : Rd intE W A c L) :
    Calls Tryz.prog 3 #[.agg #[.int .i64 x0, .int .i64 x1, .int .i64 x2, .int .i64 x3, .int .i64 x4, .int .i64 x5, .slice A L.length c]] W fun e w' => e = .returned (.bool true) ∧ Fresh W w' := by
  have HR := Lib.hid h
  have HLT : Hid (∀ ad, A = some ad → 0 < L.length → ad.block < W.heap.size) := fun ad e hl => h.lt hl ad e
  clear h
  obtain ⟨w0, hw0⟩ : ∃ w0, w0 = W.alloc (.cells #[.int .i64 x0, .int .i64 x1, .int .i64 x2, .int .i64 x3, .int .i64 x4, .int .i64 x5, .slice A L.length c] 24) := ⟨_, rfl⟩
  obtain ⟨b, hb⟩ : ∃ b, b = W.heap.size := ⟨_, rfl⟩
  have HB0 : Hid (Blk w0 b 24 [.int .i64 x0, .int .i64 x1, .int .i64 x2, .int .i64 x3, .int .i64 x4, .int .i64 x5, .slice A L.length c]) := by rw [hw0, hb]; exact Blk.new W _ _
  have HF0 : Hid (Fresh W w0) := by rw [hw0]; exact (Touch.refl _ _).alloc _
  have HBW : Hid (W.heap.size ≤ b) := Nat.le_of_eq hb.symm
  go_enter Tryz.func3, Tryz.ntmps3
  go_upto_region 1 with (fail)
  rw [← hw0, ← hb]
  clear hw0 hb
  go_wp2_with fail
  refine (awake16 w0).mono ?_
  rintro e w1 ⟨rfl, t1⟩
  have HF1 : Hid (Fresh W w1) := HF0.out.trans t1 (fun _ _ e => e)
  have HB1 := Lib.hid (t1.blk HB0.out (fun e => e))
  have HR1 := Lib.hid (HR.out.touch HF1.out (fun _ _ _ e => e))
  clear t1 HB0 HF0 HR
  simp only
  have b6 : w1.cell? ⟨b, 6, none⟩ = some (.slice A L.length c) := HB1.out.cell 6
  have q6 := HB1.out.frozen 6
  have b6a : ∀ o, (w1.alloc o).cell? ⟨b, 6, none⟩ = some (.slice A L.length c) := fun o => (HB1.out.alloc o).cell 6
  have q6a : ∀ o, (w1.alloc o).frozen? ⟨b, 6, none⟩ = false := fun o => (HB1.out.alloc o).frozen 6
  obtain ⟨len, hlen⟩ : ∃ len, len = L.length := ⟨_, rfl⟩
  have HLEN := Lib.hid hlen
  rw [← hlen] at b6 b6a ⊢
  clear hlen
  go_upto_if 11 with (fail)
  go_cut [1] (fun v wx => v = .pointer (some ⟨b, 0, none⟩) ∧ ∃ (g o c' n : Nat) (c0 c1 c2 c3 c4 : Int), 5 ≤ n ∧ n ≤ c' ∧ g ≠ b ∧ Hid (Fresh W wx) ∧ Hid (Blk wx b 24 [.int .i64 x0, .int .i64 x1, .int .i64 x2, .int .i64 x3, .int .i64 x4, .int .i64 x5, .slice (some ⟨g, o, none⟩) n c']) ∧ Hid (Rd intE wx (some ⟨g, o, none⟩) c' [c0, c1, c2, c3, c4]))
  case first =>
    by_cases hl : len < 5
    · have hl1 : (len : Int) < 5 := by omega
      have hdl : decide ((len : Int) < 5) = true := decide_eq_true hl1
      go_wp2_with fail
      go_meet
      case rel =>
        have hsl : Sl intE (w1.alloc (.cells #[.int .i64 3, .int .i64 2, .int .i64 5, .int .i64 9, .int .i64 4] 3)) (some ⟨w1.heap.size, 0, none⟩) 5 [3, 2, 5, 9, 4] := Sl.lit intE w1 _ rfl _ _ rfl _ rfl (by decide)
        have hb := (HB1.out.alloc (.cells #[.int .i64 3, .int .i64 2, .int .i64 5, .int .i64 9, .int .i64 4] 3)).set 6 (.slice (some ⟨w1.heap.size, 0, none⟩) 5 5)
        refine ⟨rfl, w1.heap.size, 0, 5, 5, 3, 2, 5, 9, 4, by omega, by omega, by have := HB1.out.lt; omega, ?_, hb, ?_⟩
        · exact (HF1.out.alloc _).setCell (fun e => by have e : b < W.heap.size := e; have := HBW.out; omega) _
        · exact (hsl.setCell (p := ⟨b, 6, none⟩) (hsl.blk_ne (HB1.out.alloc _) (by decide)) _).rd
    · have hl1 : ¬ (len : Int) < 5 := by omega
      have hdl : decide ((len : Int) < 5) = false := decide_eq_false hl1
      go_wp2_with fail
      go_meet
      case rel =>
        have hlen := HLEN.out
        match L, hlen, HR1, HB1, HLT with
        | c0 :: c1 :: c2 :: c3 :: c4 :: r, hlen, HR1, HB1, HLT =>
          obtain ⟨g, o, e, _, _⟩ := HR1.out.at_ 0 (by simp)
          subst e
          subst hlen
          exact ⟨rfl, g, o, c, _, c0, c1, c2, c3, c4, by simp, HR1.out.1, by have h1 := HLT.out _ rfl (by simp); have h2 := HBW.out; simp only at h1; omega, HF1, HB1, HR1.out.upto (k := 5) (by simp)⟩
        | [], e, _, _, _ | [_], e, _, _, _ | [_, _], e, _, _, _ | [_, _, _], e, _, _, _ | [_, _, _, _], e, _, _, _ => simp at e; omega
  case rest =>
    obtain ⟨rfl, g, o, c', n, c0, c1, c2, c3, c4, hn1, hn2, hgb, HF2, HB2, HR2⟩ := hcut
    generalize wc = w2 at *
    clear HLT HB1 HF1 HR1 HLEN b6 q6 b6a q6a
    have b6 : w2.cell? ⟨b, 6, none⟩ = some (.slice (some ⟨g, o, none⟩) n c') := HB2.out.cell 6
    have q6 := HB2.out.frozen 6
    have hn3 : (5 : Int) ≤ (c' : Int) := by omega
    go_upto_region 6 with (fail)
    obtain ⟨w3, hw3⟩ : ∃ w3, w3 = w2.setCell ⟨b, 6, none⟩ (.slice (some ⟨g, o, none⟩) 5 c') := ⟨_, rfl⟩
    have HB3 : Hid (Blk w3 b 24 [.int .i64 x0, .int .i64 x1, .int .i64 x2, .int .i64 x3, .int .i64 x4, .int .i64 x5, .slice (some ⟨g, o, none⟩) 5 c']) := by rw [hw3]; exact HB2.out.set 6 _
    have HF3 : Hid (Fresh W w3) := by rw [hw3]; exact HF2.out.setCell (fun e => by have e : b < W.heap.size := e; have := HBW.out; omega) _
    have HR3 : Hid (Rd intE w3 (some ⟨g, o, none⟩) c' [c0, c1, c2, c3, c4]) := by
      rw [hw3]
      refine HR2.out.touch (Touch.set1 w2 b 6 _) (fun ad e _ => ?_)
      injection e with e
      rw [← e]
      exact hgb
    rw [← hw3]
    clear hw3 b6 q6 HB2 HF2 HR2 hn1 hn2 hn3
    have HOW : Hid (Calls Tryz.prog 7 #[.agg #[.int .i64 x0, .int .i64 x1, .int .i64 x2, .int .i64 x3, .int .i64 x4, .int .i64 x5, .slice (some ⟨g, o, none⟩) 5 c']] w3 fun e w' => e = .returned (.agg #[.int .i64 x0, .int .i64 x1, .int .i64 x2, .int .i64 x3, .int .i64 x4, .int .u32 (x5 % 16777216), .int .i64 c0, .int .i64 c1, .int .i64 c2, .int .i64 c3, .int .i64 c4]) ∧ Fresh w3 w') := own16_any x0 x1 x2 x3 x4 x5 g o c' c0 c1 c2 c3 c4 w3 HR3.out
    have b0 : w3.cell? ⟨b, 0, none⟩ = some (.int .i64 x0) := HB3.out.cell 0
    have b1 : w3.cell? ⟨b, 1, none⟩ = some (.int .i64 x1) := HB3.out.cell 1
    have b2 : w3.cell? ⟨b, 2, none⟩ = some (.int .i64 x2) := HB3.out.cell 2
    have b3 : w3.cell? ⟨b, 3, none⟩ = some (.int .i64 x3) := HB3.out.cell 3
    have b4 : w3.cell? ⟨b, 4, none⟩ = some (.int .i64 x4) := HB3.out.cell 4
    have b5 : w3.cell? ⟨b, 5, none⟩ = some (.int .i64 x5) := HB3.out.cell 5
    have b6 : w3.cell? ⟨b, 6, none⟩ = some (.slice (some ⟨g, o, none⟩) 5 c') := HB3.out.cell 6
    go_wp2_with fail
    refine HOW.out.mono ?_
    rintro e w4 ⟨rfl, t4⟩
    have HF4 : Hid (Fresh W w4) := HF3.out.trans t4 (fun _ _ e => e)
    have HB4 := Lib.hid (t4.blk HB3.out (fun e => e))
    have HR4 := Lib.hid (HR3.out.touch t4 (fun _ _ _ e => e))
    clear t4 HOW HB3 HF3 HR3 b0 b1 b2 b3 b4 b5 b6
    simp only
    go_upto_region 7 with (fail)
    obtain ⟨w5, hw5⟩ : ∃ w5, w5 = w4.alloc (.cells #[.int .i64 x0, .int .i64 x1, .int .i64 x2, .int .i64 x3, .int .i64 x4, .int .u32 (x5 % 16777216), .int .i64 c0, .int .i64 c1, .int .i64 c2, .int .i64 c3, .int .i64 c4] 31) := ⟨_, rfl⟩
    obtain ⟨ob, hob⟩ : ∃ ob, ob = w4.heap.size := ⟨_, rfl⟩
    have HO5 : Hid (Blk w5 ob 31 [.int .i64 x0, .int .i64 x1, .int .i64 x2, .int .i64 x3, .int .i64 x4, .int .u32 (x5 % 16777216), .int .i64 c0, .int .i64 c1, .int .i64 c2, .int .i64 c3, .int .i64 c4]) := by rw [hw5, hob]; exact Blk.new w4 _ _
    have HG5 : Hid (Fresh w4 w5) := by rw [hw5]; exact (Touch.refl _ _).alloc _
    have HF5 : Hid (Fresh W w5) := HF4.out.trans HG5.out (fun _ _ e => e)
    have HB5 := Lib.hid (HG5.out.blk HB4.out (fun e => e))
    have HR5 := Lib.hid (HR4.out.touch HG5.out (fun _ _ _ e => e))
    have n1 : ¬ b = ob := by have := HB4.out.lt; omega
    have n2 : ¬ ob = b := fun e => n1 e.symm
    have HGN : Hid (W.heap.size ≤ ob ∧ g ≠ ob ∧ g ≠ b) := ⟨by have := HF4.out.size; omega, by have := HR4.out.lt (by simp) _ rfl; simp only at this; omega, hgb⟩
    rw [← hw5, ← hob]
    clear hw5 hob HB4 HR4 HF4 HG5
    obtain ⟨m1, hm1⟩ : ∃ m1, (if 4294967295 < x5 then 4294967295 else x5) = m1 := ⟨_, rfl⟩
    obtain ⟨v, hv⟩ : ∃ v, (if 0 < m1 then m1 else 0) = v := ⟨_, rfl⟩
    have HVB : Hid (0 ≤ v ∧ v ≤ 4294967295) := by unfold Hid; rw [← hv, ← hm1]; (split <;> (try split) <;> omega)
    have hvw : v % 4294967296 = v := by have := HVB.out; omega
    have b5 : w5.cell? ⟨b, 5, none⟩ = some (.int .i64 x5) := HB5.out.cell 5
    have q5 := HB5.out.frozen 5
    have o5 : w5.cell? ⟨ob, 5, none⟩ = some (.int .u32 (x5 % 16777216)) := HO5.out.cell 5
    have r5 := HO5.out.frozen 5
    go_upto_region 9 with (fail)
    obtain ⟨w6, hw6⟩ : ∃ w6, w6 = (w5.setCell ⟨ob, 5, none⟩ (.int .u32 v)).setCell ⟨b, 5, none⟩ (.int .i64 v) := ⟨_, rfl⟩
    have HB6 : Hid (Blk w6 b 24 [.int .i64 x0, .int .i64 x1, .int .i64 x2, .int .i64 x3, .int .i64 x4, .int .i64 v, .slice (some ⟨g, o, none⟩) 5 c']) := by rw [hw6]; exact (HB5.out.far n1 _).set 5 _
    have HO6 : Hid (Blk w6 ob 31 [.int .i64 x0, .int .i64 x1, .int .i64 x2, .int .i64 x3, .int .i64 x4, .int .u32 v, .int .i64 c0, .int .i64 c1, .int .i64 c2, .int .i64 c3, .int .i64 c4]) := by rw [hw6]; exact (HO5.out.set 5 _).far n2 _
    have HF6 : Hid (Fresh W w6) := by
      rw [hw6]
      exact (HF5.out.setCell (fun e => by have e : ob < W.heap.size := e; have := HGN.out.1; omega) _).setCell (fun e => by have e : b < W.heap.size := e; have := HBW.out; omega) _
    have HR6 : Hid (Rd intE w6 (some ⟨g, o, none⟩) c' [c0, c1, c2, c3, c4]) := by
      rw [hw6]
      refine (HR5.out.touch (Touch.set1 w5 ob 5 _) (fun ad e _ => ?_)).touch (Touch.set1 _ b 5 _) (fun ad e _ => ?_)
      · injection e with e
        rw [← e]
        exact HGN.out.2.1
      · injection e with e
        rw [← e]
        exact HGN.out.2.2
    rw [← hw6]
    clear hw6 HB5 HO5 HF5 HR5 b5 q5 o5 r5 hm1 hv hvw n1 n2
    have HKB : Hid (∀ wx, Fresh w6 wx → wx.cell? ⟨b, 0, none⟩ = some (.int .i64 x0) ∧ wx.cell? ⟨b, 1, none⟩ = some (.int .i64 x1) ∧ wx.cell? ⟨b, 2, none⟩ = some (.int .i64 x2) ∧ wx.cell? ⟨b, 3, none⟩ = some (.int .i64 x3) ∧ wx.cell? ⟨b, 4, none⟩ = some (.int .i64 x4) ∧ wx.cell? ⟨b, 5, none⟩ = some (.int .i64 v) ∧ wx.cell? ⟨b, 6, none⟩ = some (.slice (some ⟨g, o, none⟩) 5 c')) := fun wx ht => by
      have hb := ht.blk HB6.out (fun e => e)
      exact ⟨hb.cell 0, hb.cell 1, hb.cell 2, hb.cell 3, hb.cell 4, hb.cell 5, hb.cell 6⟩
    have HKO : Hid (∀ wx, Fresh w6 wx → wx.cell? ⟨ob, 0, none⟩ = some (.int .i64 x0) ∧ wx.cell? ⟨ob, 1, none⟩ = some (.int .i64 x1) ∧ wx.cell? ⟨ob, 2, none⟩ = some (.int .i64 x2) ∧ wx.cell? ⟨ob, 3, none⟩ = some (.int .i64 x3) ∧ wx.cell? ⟨ob, 4, none⟩ = some (.int .i64 x4) ∧ wx.cell? ⟨ob, 5, none⟩ = some (.int .u32 v) ∧ wx.cell? ⟨ob, 6, none⟩ = some (.int .i64 c0) ∧ wx.cell? ⟨ob, 7, none⟩ = some (.int .i64 c1) ∧ wx.cell? ⟨ob, 8, none⟩ = some (.int .i64 c2) ∧ wx.cell? ⟨ob, 9, none⟩ = some (.int .i64 c3) ∧ wx.cell? ⟨ob, 10, none⟩ = some (.int .i64 c4)) := fun wx ht => by
      have hb := ht.blk HO6.out (fun e => e)
      exact ⟨hb.cell 0, hb.cell 1, hb.cell 2, hb.cell 3, hb.cell 4, hb.cell 5, hb.cell 6, hb.cell 7, hb.cell 8, hb.cell 9, hb.cell 10⟩
    have HRC : Hid (∀ wx, Fresh w6 wx → Calls Tryz.prog 9 #[.agg #[.int .i64 x0, .int .i64 x1, .int .i64 x2, .int .i64 x3, .int .i64 x4, .int .i64 v, .slice (some ⟨g, o, none⟩) 5 c']] wx fun e w' => e = .returned (.bool (Nd.C.ok ⟨x0, x1, x2, x3, x4, v, c0, c1, c2, c3, c4⟩)) ∧ Fresh wx w') := fun wx hx => by
      rw [Nd.C.ok_rok HVB.out.1]
      exact rcheck16 x0 x1 x2 x3 x4 v g o c' c0 c1 c2 c3 c4 wx (HR6.out.touch hx (fun _ _ _ e => e))
    have HNC : Hid (∀ wx, Calls Tryz.prog 10 #[.agg #[.int .i64 x0, .int .i64 x1, .int .i64 x2, .int .i64 x3, .int .i64 x4, .int .u32 v, .int .i64 c0, .int .i64 c1, .int .i64 c2, .int .i64 c3, .int .i64 c4]] wx fun e w' => e = .returned (.int .i64 (if Nd.C.ok ⟨x0, x1, x2, x3, x4, v, c0, c1, c2, c3, c4⟩ then 0 else 1)) ∧ Fresh wx w') := fun wx => ncheck_any ⟨x0, x1, x2, x3, x4, v, c0, c1, c2, c3, c4⟩ wx
    clear HB6 HO6 HR6 HVB HGN hgb
    by_cases hok : Nd.C.ok ⟨x0, x1, x2, x3, x4, v, c0, c1, c2, c3, c4⟩ = true
    · have HNN : Hid (Calls Tryz.prog 8 #[.agg #[.int .i64 x0, .int .i64 x1, .int .i64 x2, .int .i64 x3, .int .i64 x4, .int .u32 v, .int .i64 c0, .int .i64 c1, .int .i64 c2, .int .i64 c3, .int .i64 c4]] w6 fun e w' => ∃ n, e = .returned (.tuple #[.pointer (some ⟨n, 0, none⟩), .int .i64 0]) ∧ NodeNw w6 w' n (Nd.S.new ⟨x0, x1, x2, x3, x4, v, c0, c1, c2, c3, c4⟩)) := nnew_ok ⟨x0, x1, x2, x3, x4, v, c0, c1, c2, c3, c4⟩ w6 hok
      have HRC2 : Hid (∀ wx, Fresh w6 wx → Calls Tryz.prog 9 #[.agg #[.int .i64 x0, .int .i64 x1, .int .i64 x2, .int .i64 x3, .int .i64 x4, .int .i64 v, .slice (some ⟨g, o, none⟩) 5 c']] wx fun e w' => e = .returned (.bool true) ∧ Fresh wx w') := fun wx hx => by have := HRC.out wx hx; rw [hok] at this; exact this
      have HNC2 : Hid (∀ wx, Calls Tryz.prog 10 #[.agg #[.int .i64 x0, .int .i64 x1, .int .i64 x2, .int .i64 x3, .int .i64 x4, .int .u32 v, .int .i64 c0, .int .i64 c1, .int .i64 c2, .int .i64 c3, .int .i64 c4]] wx fun e w' => e = .returned (.int .i64 0) ∧ Fresh wx w') := fun wx => by have := HNC.out wx; rw [hok] at this; exact this
      clear HRC HNC hok
      obtain ⟨o0, o1, o2, o3, o4, o5, o6, o7, o8, o9, o10⟩ := HKO.out w6 (Touch.refl _ _)
      go_wp2_with fail
      refine HNN.out.mono ?_
      rintro e w7 ⟨n7, rfl, h7⟩
      have HT7 : Hid (Fresh w6 w7) := h7.fresh
      clear h7 HNN o0 o1 o2 o3 o4 o5 o6 o7 o8 o9 o10
      simp only
      obtain ⟨b0, b1, b2, b3, b4, b5, b6⟩ := HKB.out w7 HT7.out
      go_wp2_with fail
      refine (HRC2.out w7 HT7.out).mono ?_
      rintro e w8 ⟨rfl, t8⟩
      have HT8 : Hid (Fresh w6 w8) := HT7.out.trans t8 (fun _ _ e => e)
      clear t8 b0 b1 b2 b3 b4 b5 b6
      simp only
      obtain ⟨b0, b1, b2, b3, b4, b5, b6⟩ := HKB.out w8 HT8.out
      go_wp2_with fail
      refine (HRC2.out w8 HT8.out).mono ?_
      rintro e w9 ⟨rfl, t9⟩
      have HT9 : Hid (Fresh w6 w9) := HT8.out.trans t9 (fun _ _ e => e)
      clear t9 b0 b1 b2 b3 b4 b5 b6
      simp only
      obtain ⟨o0, o1, o2, o3, o4, o5, o6, o7, o8, o9, o10⟩ := HKO.out w9 HT9.out
      go_wp2_with fail
      refine (HNC2.out w9).mono ?_
      rintro e w10 ⟨rfl, t10⟩
      have HT10 : Hid (Fresh w6 w10) := HT9.out.trans t10 (fun _ _ e => e)
      clear t10 o0 o1 o2 o3 o4 o5 o6 o7 o8 o9 o10
      simp only
      go_wp2
      go_ret
      exact ⟨rfl, HF6.out.trans HT10.out (fun _ _ e => e)⟩
    · have hok : Nd.C.ok ⟨x0, x1, x2, x3, x4, v, c0, c1, c2, c3, c4⟩ = false := by simpa using hok
      have HNN : Hid (Calls Tryz.prog 8 #[.agg #[.int .i64 x0, .int .i64 x1, .int .i64 x2, .int .i64 x3, .int .i64 x4, .int .u32 v, .int .i64 c0, .int .i64 c1, .int .i64 c2, .int .i64 c3, .int .i64 c4]] w6 fun e w' => e = .returned (.tuple #[.pointer none, .int .i64 1]) ∧ Fresh w6 w') := nnew_no ⟨x0, x1, x2, x3, x4, v, c0, c1, c2, c3, c4⟩ w6 hok
      have HRC2 : Hid (∀ wx, Fresh w6 wx → Calls Tryz.prog 9 #[.agg #[.int .i64 x0, .int .i64 x1, .int .i64 x2, .int .i64 x3, .int .i64 x4, .int .i64 v, .slice (some ⟨g, o, none⟩) 5 c']] wx fun e w' => e = .returned (.bool false) ∧ Fresh wx w') := fun wx hx => by have := HRC.out wx hx; rw [hok] at this; exact this
      have HNC2 : Hid (∀ wx, Calls Tryz.prog 10 #[.agg #[.int .i64 x0, .int .i64 x1, .int .i64 x2, .int .i64 x3, .int .i64 x4, .int .u32 v, .int .i64 c0, .int .i64 c1, .int .i64 c2, .int .i64 c3, .int .i64 c4]] wx fun e w' => e = .returned (.int .i64 1) ∧ Fresh wx w') := fun wx => by have := HNC.out wx; rw [hok] at this; exact this
      clear HRC HNC hok
      obtain ⟨o0, o1, o2, o3, o4, o5, o6, o7, o8, o9, o10⟩ := HKO.out w6 (Touch.refl _ _)
      go_wp2_with fail
      refine HNN.out.mono ?_
      rintro e w7 ⟨rfl, t7⟩
      have HT7 : Hid (Fresh w6 w7) := t7
      clear t7 HNN o0 o1 o2 o3 o4 o5 o6 o7 o8 o9 o10
      simp only
      obtain ⟨b0, b1, b2, b3, b4, b5, b6⟩ := HKB.out w7 HT7.out
      go_wp2_with fail
      refine (HRC2.out w7 HT7.out).mono ?_
      rintro e w8 ⟨rfl, t8⟩
      have HT8 : Hid (Fresh w6 w8) := HT7.out.trans t8 (fun _ _ e => e)
      clear t8 b0 b1 b2 b3 b4 b5 b6
      simp only
      obtain ⟨b0, b1, b2, b3, b4, b5, b6⟩ := HKB.out w8 HT8.out
      go_wp2_with fail
      refine (HRC2.out w8 HT8.out).mono ?_
      rintro e w9 ⟨rfl, t9⟩
      have HT9 : Hid (Fresh w6 w9) := HT8.out.trans t9 (fun _ _ e => e)
      clear t9 b0 b1 b2 b3 b4 b5 b6
      simp only
      obtain ⟨o0, o1, o2, o3, o4, o5, o6, o7, o8, o9, o10⟩ := HKO.out w9 HT9.out
      go_wp2_with fail
      refine (HNC2.out w9).mono ?_
      rintro e w10 ⟨rfl, t10⟩
      have HT10 : Hid (Fresh w6 w10) := HT9.out.trans t10 (fun _ _ e => e)
      clear t10 o0 o1 o2 o3 o4 o5 o6 o7 o8 o9 o10
      simp only
      go_wp2
      go_ret
      exact ⟨rfl, HF6.out.trans HT10.out (fun _ _ e => e)⟩
end Go.Proofs.YtimhjdepngmejaaGreat
