/-
  RecvPlays: behind any calls a receiver is what the document says; one just like it goes its own way.
-/
import Derived.Test.YtpjmgdoekeknjaaPl12
import Derived.Deep.RegionLaw
namespace Go.Proofs.Ytpjmgdoekeknjaa
open Go.RowKit Go.ChangeShapes Go.WideShapes Go.ChangeAt

set_option maxHeartbeats 8000000 in
set_option maxRecDepth 4000 in
theorem recvPlays.core (start window : Int) (A0 : Option Addr) (c0' : Nat) (l : List Act12) (w : World) (h : Rd act12E w A0 c0' l) (hl : ∀ a ∈ l, a.m.size ≤ maxLen) :
    Calls Try.prog 6 #[.int .i64 start, .int .i64 window, .slice A0 l.length c0'] w fun e w' => e = .returned (.bool true) ∧ Below w.heap.size w w' := by
  have hlc := h.1
  have hcm := h.2.1
  unfold maxLen at hcm
  have HR := Lib.hid h
  have HS := Lib.hid hl
  clear h hl
  have HNW : Hid (∀ W, Fresh w W → Calls Try.prog 11 #[.int .u32 (start % 16777216), .int .i64 window] W fun e w' => ∃ p F, e = .returned (.pointer (some ⟨p, 0, none⟩)) ∧ OwnRecv w w' p F (Rf.prog (Rf.new start window)) ∧ Fresh W w' ∧ ∀ x, F x → W.heap.size ≤ x) := fun W hf => onewR (start % 16777216) window hf (Rv.new_mod start window)
  have HRN : Hid (∀ W, Calls Try.prog 23 #[.int .i64 start, .int .i64 window] W fun e w' => e = .returned (.agg #[.int .i64 (Rf.new start window).R, .int .i64 (Rf.new start window).H, .int .i64 (Rf.new start window).MR, .int .i64 (Rf.new start window).window, .slice none (Rf.new start window).buf.length 0, .slice none (Rf.new start window).inbox.length 0, .slice none (Rf.new start window).gaps.length 0]) ∧ Fresh W w') := fun W => rfnew_any start window W
  have HSO := Lib.hid (sof_any start)
  obtain ⟨x0, hx0⟩ : ∃ x0, x0 = Rf.new start window := ⟨_, rfl⟩
  have hlo : 0 ≤ start % 16777216 ∧ start % 16777216 < 16777216 := by omega
  have HPN : Hid (∀ (W : World) (p b : Nat) (F : Nat → Prop), OwnRecv w W p F (Rf.prog x0) → Blk W b 52 (rfCells x0 none 0 none 0 none 0) → ¬ F b → w.heap.size ≤ b → PlSt w W p b F (fun _ => False) none 0 none 0 none 0 [] x0 (start % 16777216) (start % 16777216)) := by
    intro W p b F h1 h2 h3 h4
    rw [hx0] at h1 h2 ⊢
    exact PlSt.new h1 h2 h3 h4
  rw [← hx0] at HNW HRN
  clear hx0
  generalize start % 16777216 = s0 at *
  go_enter Try.func6, Try.ntmps6
  go_wp2_with fail
  refine (awake12 w).mono ?_
  rintro e w1 ⟨rfl, f1⟩
  have F1 := Lib.hid f1
  clear f1
  simp only
  go_wp2_with fail
  refine (HSO.out w1).mono ?_
  rintro e w2 ⟨rfl, rfl⟩
  simp only
  go_wp2_with fail
  refine (HNW.out w2 F1.out).mono ?_
  rintro e w3 ⟨p, F, rfl, o3, f3, b3⟩
  have O3 := Lib.hid o3
  have F3 := Lib.hid (F1.out.trans f3 (fun _ _ h => h))
  clear o3 f3 b3 HNW
  simp only
  go_wp2_with fail
  refine (HRN.out w3).mono ?_
  rintro e w4 ⟨rfl, f4⟩
  have O4 := Lib.hid (O3.out.old f4)
  clear f4 O3 HRN
  simp only
  have hb := Blk.new w4 52 (rfCells x0 none 0 none 0 none 0)
  have PL := Lib.hid (HPN.out (w4.alloc (.cells (rfCells x0 none 0 none 0 none 0).toArray 52)) p w4.heap.size F (O4.out.old ((Touch.refl _ _).alloc _)) hb (fun hf => Nat.lt_irrefl _ (O4.out.at_.lim _ hf)) O4.out.fresh.size)
  clear hb O4 HPN F3 F1
  go_wp2_with fail
  obtain ⟨b, hb⟩ : ∃ b, b = w4.heap.size := ⟨_, rfl⟩
  rw [← hb] at PL ⊢
  clear hb
  go_loopw [10] (fun i wr => ∃ (k : Nat) (F D : Nat → Prop) (A : Option Addr) (c : Nat) (I : Option Addr) (ci : Nat) (G : Option Addr) (cg : Nat) (L : List (Option Nat)) (x : Rf.S) (hi : Int), k ≤ l.length ∧ k ≤ 90 ∧ i = .int .i64 k ∧ Hid (PlSt w wr p b F D A c I ci G cg L x s0 hi) ∧ hi = s0 + 64 * (k : Int)) (fun i _ => l.length - (intOf i).toNat)
  case atStart => exact ⟨0, F, _, _, _, _, _, _, _, _, _, s0, by omega, by omega, rfl, PL, by omega⟩
  case round =>
    clear PL
    obtain ⟨k, F, D, A, c, I, ci, G, cg, L, x, hi, hk, hk90, rfl, HP, hhi⟩ := hrel
    have hcont : (k < l.length ∧ k < 90) ∨ ¬ (k < l.length ∧ k < 90) := Decidable.em _
    rcases hcont with ⟨hk1, hk2⟩ | hstop
    · have hk1' : (k : Int) < (l.length : Int) := by omega
      have hdk1 : decide ((k : Int) < (l.length : Int)) = true := decide_eq_true hk1'
      have hk2' : (k : Int) < 90 := by omega
      have hdk2 : decide ((k : Int) < 90) = true := decide_eq_true hk2'
      have hk0 : (0 : Int) ≤ (k : Int) := by omega
      obtain ⟨ga, oa, rfl, _, e0, e1, e2, e3⟩ := (HR.out.touch HP.out.fresh (fun _ _ _ h => h)).act12_at k hk1
      have ham : (l.getD k ⟨0, 0, false, ByteArray.empty⟩).m.size ≤ maxLen := by
        have e : l.getD k ⟨0, 0, false, ByteArray.empty⟩ = l[k] := by simp [List.getD, List.getElem?_eq_getElem hk1]
        rw [e]
        exact HS.out _ (List.getElem_mem _)
      generalize l.getD k ⟨0, 0, false, ByteArray.empty⟩ = a at *
      obtain ⟨d0, d1, d2, d3, d4, d5, d6⟩ := HP.out.cells
      have HST := Lib.hid (fun W (hf : Fresh wr W) => plstep (HP.out.old hf) a (by omega) ham)
      unfold act12V at HST
      have g1 : Fresh wr wr.drew := (Touch.refl _ _).drew
      go_upto_region 10 with (fail)
      go_region_law (go_simp; go_at_call 24; refine (HST.out _ (by assumption)).mono ?_; rintro e' w6 ⟨F6, D6, A6, c6, I6, ci6, G6, cg6, L6, rfl, ⟨fz, y0, y1, y2, y3, y4, y5, y6⟩, hp6⟩; have HP6 := Lib.hid hp6; clear hp6)
      all_goals
        clear y0 y1 y2 y3 y4 y5 y6 fz HST g1 e0 e1 e2 e3 d0 d1 d2 d3 d4 d5 d6 HP
        generalize Rf.step x a = y at *
        generalize (((((((w6.setCell ⟨b, 0, none⟩ (.int .i64 y.R)).setCell ⟨b, 1, none⟩ (.int .i64 y.H)).setCell ⟨b, 2, none⟩ (.int .i64 y.MR)).setCell ⟨b, 3, none⟩ (.int .i64 y.window)).setCell ⟨b, 4, none⟩ (.slice A6 y.buf.length c6)).setCell ⟨b, 5, none⟩ (.slice I6 y.inbox.length ci6)).setCell ⟨b, 6, none⟩ (.slice G6 y.gaps.length cg6)) = w7 at *
        have HIS : Hid (Calls Try.prog 25 #[.pointer (some ⟨p, 0, none⟩), .agg #[.int .i64 y.R, .int .i64 y.H, .int .i64 y.MR, .int .i64 y.window, .slice A6 y.buf.length c6, .slice I6 y.inbox.length ci6, .slice G6 y.gaps.length cg6]] w7 fun e w' => e = .returned (.bool true) ∧ Fresh w7 w') := is12_any p F6 A6 c6 I6 ci6 G6 cg6 y w7 HP6.out.st.recv
        obtain ⟨d0, d1, d2, d3, d4, d5, d6⟩ := HP6.out.cells
        go_wp2_with fail
        refine HIS.out.mono ?_
        rintro e w8 ⟨rfl, f8⟩
        have HP8 := Lib.hid (HP6.out.old f8)
        clear f8 HP6 HIS d0 d1 d2 d3 d4 d5 d6
        simp only
        go_wp2
        go_roundw
        case rel => exact ⟨k + 1, F6, D6, A6, c6, I6, ci6, G6, cg6, L6, y, hi + 64, by omega, by omega, by go_num, HP8, by omega⟩
        case measure => simp [intOf]; omega
    · have FF := Lib.hid HP.out.fresh
      by_cases h1 : k < l.length
      · have hk1' : (k : Int) < (l.length : Int) := by omega
        have hdk1 : decide ((k : Int) < (l.length : Int)) = true := decide_eq_true hk1'
        have hk2' : ¬ (k : Int) < 90 := by omega
        have hdk2 : decide ((k : Int) < 90) = false := decide_eq_false hk2'
        clear HP
        go_wp2
        go_ret
        exact ⟨rfl, FF.out.below (Nat.le_refl _) (fun _ _ h => h)⟩
      · have hk1' : ¬ (k : Int) < (l.length : Int) := by omega
        have hdk1 : decide ((k : Int) < (l.length : Int)) = false := decide_eq_false hk1'
        clear HP
        go_wp2
        go_ret
        exact ⟨rfl, FF.out.below (Nat.le_refl _) (fun _ _ h => h)⟩

set_option maxRecDepth 10000 in
theorem recvPlays.walk (start window : Int) (v : Value) (w : World) (_h0 : (Lit.int .i64 start).wf = true) (_h1 : (Lit.int .i64 window).wf = true) {H : Type} {enc : TypeId × Value → H} {b0 : Nat} {d : DataW H} {p : List MemPlace} (hv : Value.okWide Try.prog w .any b0 48 v) (h : DataW.Trod enc Try.prog w 0 (fun _ => true) true 48 v d p) :
    Calls Try.prog 6 #[.int .i64 start, .int .i64 window, v] w fun e w' => e = .returned (.bool true) ∧ Below w.heap.size w w' := by
  obtain ⟨A, c, l, rfl, hr, hg⟩ := open_rd_act12 hv h
  exact recvPlays.core start window A c l w hr hg
end Go.Proofs.Ytpjmgdoekeknjaa
