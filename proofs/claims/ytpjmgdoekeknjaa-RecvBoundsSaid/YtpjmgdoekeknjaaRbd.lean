/-
  RecvBounds: R, H and MR stand in their order, and what is kept is no more than the window, whatever comes.
-/
import Derived.Test.YtpjmgdoekeknjaaPl12
import Derived.Deep.RegionLaw
namespace Go.Proofs.Ytpjmgdoekeknjaa
open Go.RowKit Go.ChangeShapes Go.WideShapes Go.ChangeAt

set_option maxHeartbeats 8000000 in
set_option maxRecDepth 4000 in
theorem recvBounds.core (start window : Int) (A0 : Option Addr) (c0' : Nat) (l : List Act12) (w : World) (h : Rd act12E w A0 c0' l) (hl : ∀ a ∈ l, a.m.size ≤ maxLen) :
    Calls Try.prog 7 #[.int .i64 start, .int .i64 window, .slice A0 l.length c0'] w fun e w' => e = .returned (.bool true) ∧ Below w.heap.size w w' := by
  have hlc := h.1
  have hcm := h.2.1
  unfold maxLen at hcm
  have HR := Lib.hid h
  have HS := Lib.hid hl
  clear h hl
  have HNW : Hid (∀ W, Fresh w W → Calls Try.prog 11 #[.int .u32 (start % 16777216), .int .i64 window] W fun e w' => ∃ p F, e = .returned (.pointer (some ⟨p, 0, none⟩)) ∧ OwnRecv w w' p F (Rf.prog (Rf.new start window)) ∧ Fresh W w' ∧ ∀ x, F x → W.heap.size ≤ x) := fun W hf => onewR (start % 16777216) window hf (Rv.new_mod start window)
  have HRN : Hid (∀ W, Calls Try.prog 23 #[.int .i64 start, .int .i64 window] W fun e w' => e = .returned (.agg #[.int .i64 (Rf.new start window).R, .int .i64 (Rf.new start window).H, .int .i64 (Rf.new start window).MR, .int .i64 (Rf.new start window).window, .slice none (Rf.new start window).buf.length 0, .slice none (Rf.new start window).inbox.length 0, .slice none (Rf.new start window).gaps.length 0]) ∧ Fresh W w') := fun W => rfnew_any start window W
  have HSO := Lib.hid (sof_any start)
  obtain ⟨x0, hx0⟩ : ∃ x0, x0 = Rf.new start window := ⟨_, rfl⟩
  have hlo : 0 ≤ start % 16777216 ∧ start % 16777216 < 16777216 := by omega
  have HPN : Hid (∀ (W : World) (p b : Nat) (F : Nat → Prop), OwnRecv w W p F (Rf.prog x0) → Blk W b 52 (rfCells x0 none 0 none 0 none 0) → ¬ F b → w.heap.size ≤ b → PlSt w W p b F (fun _ => False) none 0 none 0 none 0 [] x0 (start % 16777216) (start % 16777216)) := by
    intro W p b F h1 h2 h3 h4
    rw [hx0] at h1 h2 ⊢
    exact PlSt.new h1 h2 h3 h4
  obtain ⟨W, hW⟩ : ∃ W : Int, max 1 (min window 64) = W := ⟨_, rfl⟩
  have hW2 : (if 64 < window then 64 else window) = min window 64 := by split <;> omega
  have HXW : Hid (x0.window = W) := by rw [hx0, ← hW]; rfl
  rw [← hx0] at HNW HRN
  clear hx0
  generalize start % 16777216 = s0 at *
  go_enter Try.func7, Try.ntmps7
  go_wp2_with fail
  refine (awake12 w).mono ?_
  rintro e w1 ⟨rfl, f1⟩
  have F1 := Lib.hid f1
  clear f1
  simp only
  go_wp2_with fail
  refine (HSO.out w1).mono ?_
  rintro e w2 ⟨rfl, rfl⟩
  simp only
  go_wp2_with fail
  refine (HNW.out w2 F1.out).mono ?_
  rintro e w3 ⟨p, F, rfl, o3, f3, b3⟩
  have O3 := Lib.hid o3
  have F3 := Lib.hid (F1.out.trans f3 (fun _ _ h => h))
  clear o3 f3 b3 HNW
  simp only
  go_wp2_with fail
  refine (HRN.out w3).mono ?_
  rintro e w4 ⟨rfl, f4⟩
  have O4 := Lib.hid (O3.out.old f4)
  clear f4 O3 HRN
  simp only
  have hb := Blk.new w4 52 (rfCells x0 none 0 none 0 none 0)
  have PL := Lib.hid (HPN.out (w4.alloc (.cells (rfCells x0 none 0 none 0 none 0).toArray 52)) p w4.heap.size F (O4.out.old ((Touch.refl _ _).alloc _)) hb (fun hf => Nat.lt_irrefl _ (O4.out.at_.lim _ hf)) O4.out.fresh.size)
  clear hb O4 HPN F3 F1
  go_wp2_with fail
  clear hW hW2
  obtain ⟨b, hb⟩ : ∃ b, b = w4.heap.size := ⟨_, rfl⟩
  rw [← hb] at PL ⊢
  clear hb
  go_loopw [10] (fun i wr => ∃ (k : Nat) (F D : Nat → Prop) (A : Option Addr) (c : Nat) (I : Option Addr) (ci : Nat) (G : Option Addr) (cg : Nat) (L : List (Option Nat)) (x : Rf.S) (hi : Int), k ≤ l.length ∧ k ≤ 90 ∧ i = .int .i64 k ∧ Hid (PlSt w wr p b F D A c I ci G cg L x s0 hi) ∧ hi = s0 + 64 * (k : Int) ∧ Hid (x.window = W)) (fun i _ => l.length - (intOf i).toNat)
  case atStart => exact ⟨0, F, _, _, _, _, _, _, _, _, _, s0, by omega, by omega, rfl, PL, by omega, HXW⟩
  case round =>
    clear PL
    obtain ⟨k, F, D, A, c, I, ci, G, cg, L, x, hi, hk, hk90, rfl, HP, hhi, HW⟩ := hrel
    have hcont : (k < l.length ∧ k < 90) ∨ ¬ (k < l.length ∧ k < 90) := Decidable.em _
    rcases hcont with ⟨hk1, hk2⟩ | hstop
    · have hk1' : (k : Int) < (l.length : Int) := by omega
      have hdk1 : decide ((k : Int) < (l.length : Int)) = true := decide_eq_true hk1'
      have hk2' : (k : Int) < 90 := by omega
      have hdk2 : decide ((k : Int) < 90) = true := decide_eq_true hk2'
      have hk0 : (0 : Int) ≤ (k : Int) := by omega
      obtain ⟨ga, oa, rfl, _, e0, e1, e2, e3⟩ := (HR.out.touch HP.out.fresh (fun _ _ _ h => h)).act12_at k hk1
      have ham : (l.getD k ⟨0, 0, false, ByteArray.empty⟩).m.size ≤ maxLen := by
        have e : l.getD k ⟨0, 0, false, ByteArray.empty⟩ = l[k] := by simp [List.getD, List.getElem?_eq_getElem hk1]
        rw [e]
        exact HS.out _ (List.getElem_mem _)
      generalize l.getD k ⟨0, 0, false, ByteArray.empty⟩ = a at *
      obtain ⟨d0, d1, d2, d3, d4, d5, d6⟩ := HP.out.cells
      have HST := Lib.hid (fun W (hf : Fresh wr W) => plstep (HP.out.old hf) a (by omega) ham)
      unfold act12V at HST
      have g1 : Fresh wr wr.drew := (Touch.refl _ _).drew
      go_upto_region 10 with (fail)
      go_region_law (go_simp; go_at_call 24; refine (HST.out _ (by assumption)).mono ?_; rintro e' w6 ⟨F6, D6, A6, c6, I6, ci6, G6, cg6, L6, rfl, ⟨fz, y0, y1, y2, y3, y4, y5, y6⟩, hp6⟩; have HP6 := Lib.hid hp6; clear hp6)
      all_goals
        clear y0 y1 y2 y3 y4 y5 y6 fz HST g1 e0 e1 e2 e3 d0 d1 d2 d3 d4 d5 d6 HP
        have HW6 : Hid ((Rf.step x a).window = W) := by rw [← HW.out]; exact step_window x a
        generalize Rf.step x a = y at *
        generalize (((((((w6.setCell ⟨b, 0, none⟩ (.int .i64 y.R)).setCell ⟨b, 1, none⟩ (.int .i64 y.H)).setCell ⟨b, 2, none⟩ (.int .i64 y.MR)).setCell ⟨b, 3, none⟩ (.int .i64 y.window)).setCell ⟨b, 4, none⟩ (.slice A6 y.buf.length c6)).setCell ⟨b, 5, none⟩ (.slice I6 y.inbox.length ci6)).setCell ⟨b, 6, none⟩ (.slice G6 y.gaps.length cg6)) = w7 at *
        have HVR := Lib.hid (rv_vars HP6.out)
        obtain ⟨q1, q2, q3, q4, q5⟩ := rv_bounds HP6.out.st.ok
        rw [HW6.out] at q2 q3
        have ok6 := HP6.out.st.ok
        have m1 := ok6.hm
        have m2 := ok6.rh
        have m3 := ok6.sum
        have m4 := ok6.win
        have HT1 := Lib.hid (to_any (y.R % 16777216) (y.H % 16777216))
        have HT2 := Lib.hid (to_any (y.R % 16777216) (y.MR % 16777216))
        rw [show (y.H % 16777216 - y.R % 16777216) % 16777216 = y.H - y.R by omega] at HT1
        rw [show (y.MR % 16777216 - y.R % 16777216) % 16777216 = y.MR - y.R by omega] at HT2
        clear m1 m2 m3 m4 ok6
        generalize y.R % 16777216 = r1 at *
        generalize y.H % 16777216 = r2 at *
        generalize y.MR % 16777216 = r3 at *
        generalize y.H - y.R = dH at *
        generalize y.MR - y.R = dM at *
        have bl64 : y.buf.length ≤ 64 := HP6.out.st.ok.blen
        have il64 : y.inbox.length ≤ 64 := HP6.out.st.ok.ilen
        generalize y.buf.length = bl at *
        generalize y.inbox.length = il at *
        generalize y.gaps.length = gl at *
        have d1 : decide (dM < dH) = false := decide_eq_false (by omega)
        have d2 : decide (W < dM) = false := decide_eq_false (by omega)
        have d3 : decide (W < (bl : Int) + (il : Int)) = false := decide_eq_false (by omega)
        have d4 : decide (8 < (gl : Int)) = false := decide_eq_false (by omega)
        have d5 : decide (dH < (bl : Int)) = false := decide_eq_false (by omega)
        go_wp2_with fail
        refine HVR.out.mono ?_
        rintro e w8 ⟨rfl, f8⟩
        have HP8 := Lib.hid (HP6.out.old (f8.alloc (.cells #[.int .u32 r1, .int .u32 r2, .int .u32 r3, .int .i64 (bl : Int), .int .i64 (il : Int), .int .i64 (gl : Int)] 36)))
        clear f8 HP6 HVR
        simp only
        go_upto_region 12 with (fail)
        have VB := Lib.hid (Blk.new w8 36 [.int .u32 r1, .int .u32 r2, .int .u32 r3, .int .i64 (bl : Int), .int .i64 (il : Int), .int .i64 (gl : Int)])
        obtain ⟨w9, hw9⟩ : ∃ w9, w9 = w8.alloc (.cells #[.int .u32 r1, .int .u32 r2, .int .u32 r3, .int .i64 (bl : Int), .int .i64 (il : Int), .int .i64 (gl : Int)] 36) := ⟨_, rfl⟩
        have VB' : Hid (Blk w9 w8.heap.size 36 [.int .u32 r1, .int .u32 r2, .int .u32 r3, .int .i64 (bl : Int), .int .i64 (il : Int), .int .i64 (gl : Int)]) := hw9 ▸ VB.out
        rw [← hw9] at HP8 ⊢
        clear VB hw9
        have v0 : w9.cell? ⟨w8.heap.size, 0, none⟩ = _ := VB'.out.cell 0
        have v1 : w9.cell? ⟨w8.heap.size, 1, none⟩ = _ := VB'.out.cell 1
        have v2 : w9.cell? ⟨w8.heap.size, 2, none⟩ = _ := VB'.out.cell 2
        have v3 : w9.cell? ⟨w8.heap.size, 3, none⟩ = _ := VB'.out.cell 3
        have v4 : w9.cell? ⟨w8.heap.size, 4, none⟩ = _ := VB'.out.cell 4
        have v5 : w9.cell? ⟨w8.heap.size, 5, none⟩ = _ := VB'.out.cell 5
        simp only [List.getElem?_cons_succ, List.getElem?_cons_zero] at v0 v1 v2 v3 v4 v5
        go_quiet ((go_at_call 17; first | with_reducible refine Calls.quiet_of_same (HT1.out _) | with_reducible refine Calls.quiet_of_same (HT2.out _)))
        go_wp2
        go_roundw
        case rel => exact ⟨k + 1, F6, D6, A6, c6, I6, ci6, G6, cg6, L6, y, hi + 64, by omega, by omega, by go_num, HP8.out.old ((Touch.refl _ _).drewN _), by omega, HW6⟩
        case measure => simp [intOf]; omega
    · have FF := Lib.hid HP.out.fresh
      by_cases h1 : k < l.length
      · have hk1' : (k : Int) < (l.length : Int) := by omega
        have hdk1 : decide ((k : Int) < (l.length : Int)) = true := decide_eq_true hk1'
        have hk2' : ¬ (k : Int) < 90 := by omega
        have hdk2 : decide ((k : Int) < 90) = false := decide_eq_false hk2'
        clear HP
        go_wp2
        go_ret
        exact ⟨rfl, FF.out.below (Nat.le_refl _) (fun _ _ h => h)⟩
      · have hk1' : ¬ (k : Int) < (l.length : Int) := by omega
        have hdk1 : decide ((k : Int) < (l.length : Int)) = false := decide_eq_false hk1'
        clear HP
        go_wp2
        go_ret
        exact ⟨rfl, FF.out.below (Nat.le_refl _) (fun _ _ h => h)⟩

set_option maxRecDepth 10000 in
theorem recvBounds.walk (start window : Int) (v : Value) (w : World) (_h0 : (Lit.int .i64 start).wf = true) (_h1 : (Lit.int .i64 window).wf = true) {H : Type} {enc : TypeId × Value → H} {b0 : Nat} {d : DataW H} {p : List MemPlace} (hv : Value.okWide Try.prog w .any b0 48 v) (h : DataW.Trod enc Try.prog w 0 (fun _ => true) true 48 v d p) :
    Calls Try.prog 7 #[.int .i64 start, .int .i64 window, v] w fun e w' => e = .returned (.bool true) ∧ Below w.heap.size w w' := by
  obtain ⟨A, c, l, rfl, hr, hg⟩ := open_rd_act12 hv h
  exact recvBounds.core start window A c l w hr hg
end Go.Proofs.Ytpjmgdoekeknjaa
