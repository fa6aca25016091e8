/-
  polliwoglaw12.Step: Stat.
-/
import Derived.Test.YtpjmgdoekeknjaaStp12
import Derived.Deep.RegionHeld3
namespace Go.Proofs.Ytpjmgdoekeknjaa
open Go.RowKit

theorem lof_fr (x : Int) (w : World) : Calls Try.prog 41 #[.int .u32 (x % 16777216), .int .i64 x] w fun e w' => e = .returned (.bool true) ∧ Fresh w w' := by
  refine (lof_true x w).mono ?_
  rintro e w' ⟨rfl, rfl⟩
  exact ⟨rfl, Touch.refl _ _⟩
theorem Touch.st7 {S : Nat → Prop} {w w' : World} (h : Touch S w w') {g : Nat} (hs : S g) {u0 u1 u2 u3 u4 u5 u6 : Value} :
    Touch S w (((((((w'.setCell ⟨g, 0, none⟩ u0).setCell ⟨g, 1, none⟩ u1).setCell ⟨g, 2, none⟩ u2).setCell ⟨g, 3, none⟩ u3).setCell ⟨g, 4, none⟩ u4).setCell ⟨g, 5, none⟩ u5).setCell ⟨g, 6, none⟩ u6) :=
  ((((((h.st hs).st hs).st hs).st hs).st hs).st hs).st hs
theorem Blk.set7 {w : World} {b : Nat} {t : TypeId} {a0 a1 a2 a3 a4 a5 a6 : Value} (h : Blk w b t [a0, a1, a2, a3, a4, a5, a6]) (u0 u1 u2 u3 u4 u5 u6 : Value) :
    Blk (((((((w.setCell ⟨b, 0, none⟩ u0).setCell ⟨b, 1, none⟩ u1).setCell ⟨b, 2, none⟩ u2).setCell ⟨b, 3, none⟩ u3).setCell ⟨b, 4, none⟩ u4).setCell ⟨b, 5, none⟩ u5).setCell ⟨b, 6, none⟩ u6) b t [u0, u1, u2, u3, u4, u5, u6] :=
  ((((((h.set 0 u0).set 1 u1).set 2 u2).set 3 u3).set 4 u4).set 5 u5).set 6 u6

set_option maxHeartbeats 8000000 in
set_option maxRecDepth 4000 in
theorem step12_stat {lo hi : Int} (p : Nat) (F D : Nat → Prop) (A : Option Addr) (c : Nat) (I : Option Addr) (ci : Nat) (G : Option Addr) (cg : Nat) (L : List (Option Nat)) (x : Rf.S) (a : Act12) (w : World) (h : StIn w p F D A c I ci G cg L x lo hi) (hk : a.kind = 2) {y : Rf.S} (hy : Rf.renew x = y) :
    Calls Try.prog 24 #[.pointer (some ⟨p, 0, none⟩), rfV x A c I ci G cg, act12V a] w (StepPost w p F D y) := by
  have HI := Lib.hid h
  have b1 := h.ok.lo0
  have b2 := h.ok.lor
  have b3 := h.ok.rhi
  have b4 := h.ok.hl
  have b5 := h.ok.hm
  have b6 := h.ok.sum
  have b7 := h.ok.win
  have b8 := h.ok.rh
  have HB := Lib.hid (StBox.new w A c I ci G cg x a)
  have F1 : Hid (Fresh w (((w.alloc (.cells #[.int .i64 x.R, .int .i64 x.H, .int .i64 x.MR, .int .i64 x.window, .slice A x.buf.length c, .slice I x.inbox.length ci, .slice G x.gaps.length cg] 52)).alloc
    (.cells #[.int .i64 a.kind, .int .i64 a.n, .bool a.raw, .string a.m] 57)).alloc (.cells #[.int .i64 0, .int .i64 0, .int .i64 0, .int .i64 0, .slice none 0 0, .slice none 0 0, .slice none 0 0] 52))) := (((Touch.refl _ _).alloc _).alloc _).alloc _
  have HST : Hid (∀ W, Fresh w W → Calls Try.prog 22 #[.pointer (some ⟨p, 0, none⟩)] W fun e w' => ∃ B d S, e = .returned (.tuple #[.slice B (Gp.gl (x.R % 16777216) S).length d, .int .u32 (x.R % 16777216), .int .u32 (y.MR % 16777216)]) ∧ RecvAt w' p F (Rf.prog y) ∧ Touch F W w' ∧
      Sl numE w' B d (Gp.gl (x.R % 16777216) S) ∧ (∀ ad, B = some ad → W.heap.size ≤ ad.block) ∧ Gp.nm 65536 (Gp.gl (x.R % 16777216) S) ((Gp.gl (x.R % 16777216) S).length / 2) = (Rf.missing x).map (· % 16777216) ∧ S.length ≤ 100000) := fun W hf => by
    refine (rstat_any p F (Rf.prog x) W (h.recv.old hf) (by rw [h.ok.dist]; omega) (by show 0 ≤ x.window ∧ x.window ≤ 64; omega) (by show x.inbox.length ≤ 1000000; have := h.ok.ilen; omega)).mono ?_
    rintro e w' ⟨B, d, S, rfl, r1, r2, r3, r4, r5⟩
    rw [h.ok.renew.1, hy] at r1 ⊢
    exact ⟨B, d, S, rfl, r1, r2, r3, r4, h.ok.named r5, r5.len (by rw [h.ok.dist]; omega)⟩
  have HRN : Hid (∀ W, Calls Try.prog 40 #[.agg #[.int .i64 x.R, .int .i64 x.H, .int .i64 x.MR, .int .i64 x.window, .slice A x.buf.length c, .slice I x.inbox.length ci, .slice G x.gaps.length cg]] W fun e w' => e = .returned (.agg #[.int .i64 y.R, .int .i64 y.H, .int .i64 y.MR, .int .i64 y.window, .slice A y.buf.length c, .slice I y.inbox.length ci, .slice G y.gaps.length cg]) ∧ Fresh W w') := fun W => by
    have := rfrenew_any A c I ci G cg x W h.ok
    rw [hy] at this
    exact this
  have oky : Rf.Ok y lo hi := hy ▸ h.ok.renew.2
  have HPP : Hid (y.buf = x.buf ∧ y.inbox = x.inbox ∧ y.gaps = x.gaps) := by rw [← hy]; exact ⟨rfl, rfl, rfl⟩
  have hmis : Rf.missing y = Rf.missing x := by rw [← hy]; rfl
  have hR : y.R = x.R := by rw [← hy]; rfl
  have HMI : Hid (∀ W, Touch F w W → Calls Try.prog 43 #[.agg #[.int .i64 y.R, .int .i64 y.H, .int .i64 y.MR, .int .i64 y.window, .slice A y.buf.length c, .slice I y.inbox.length ci, .slice G y.gaps.length cg]] W fun e w' => ∃ A' c', e = .returned (.slice A' (Rf.missing x).length c') ∧ Mine intE W w' A' c' (Rf.missing x)) := fun W ht => by
    have hi2 := h.ins.touch h.dom ht (fun k hk hf => h.off k hf hk)
    have := rfmissing_any A c I ci G cg L y W ⟨HPP.out.1 ▸ hi2.buf, HPP.out.2.1 ▸ hi2.inb, hi2.gap, HPP.out.2.2 ▸ hi2.rows⟩ oky
    rw [hmis] at this
    exact this
  have hmlen : (Rf.missing x).length ≤ 64 := by
    have h1 : (Rf.missing x).length ≤ (x.H - x.R).toNat := Rf.missK_len x _
    omega
  have HO1 := Lib.hid (lof_fr y.R)
  have HO2 := Lib.hid (lof_fr y.MR)
  rw [← hR] at HST
  clear h hy oky hmis hR
  unfold rfV
  unfold act12V
  rw [hk] at HB F1 ⊢
  have hk0 : Hid (a.kind = _) := hk
  clear hk
  generalize Rf.missing x = M at *
  generalize y.R % 16777216 = r1 at *
  generalize y.MR % 16777216 = r3 at *
  go_enter Try.func24, Try.ntmps24
  go_upto_region 8 with (fail)
  generalize (World.alloc (World.alloc (World.alloc w _) _) _) = w1 at HB F1 ⊢
  go_wp2_with fail
  refine (HST.out w1 F1.out).mono ?_
  rintro e w2 ⟨B, d, S, rfl, r1', t2, s2, sb2, hnm, hS⟩
  have hF : Hid (∀ k, F k → k < w.heap.size) := HI.out.recv.lim
  have HB2 := Lib.hid (HB.out.touch t2 hF.out)
  have R2 := Lib.hid r1'
  have T2 : Hid (Touch F w w2) := (F1.out.mono (fun _ _ h => h.elim)).trans t2 (fun _ _ h => h)
  have S2 := Lib.hid s2
  have SB2 : Hid (∀ ad, B = some ad → w.heap.size + 1 + 1 < ad.block) := fun ad e => by
    have h1 := sb2 ad e
    have h2 := HB.out.res.lt
    omega
  have HNM := Lib.hid hnm
  have hgl : (Gp.gl r1 S).length ≤ 200000 := by rw [Gp.gl_len]; omega
  clear r1' t2 s2 sb2 hnm HST HB F1
  generalize Gp.gl r1 S = l at *
  obtain ⟨c0, c1, c2, c3, c4, c5, c6⟩ := HB2.out.cells
  simp only
  go_wp2_with fail
  refine (HRN.out w2).mono ?_
  rintro e w3 ⟨rfl, f3⟩
  have HB3 := Lib.hid (HB2.out.touch f3 (fun _ h => h.elim))
  have R3 := Lib.hid (R2.out.old f3)
  have T3 : Hid (Touch F w w3) := T2.out.trans f3 (fun _ _ h => h.elim)
  have S3 := Lib.hid (S2.out.touch f3 (fun _ _ h => h))
  clear f3 HB2 R2 T2 S2 HRN c0 c1 c2 c3 c4 c5 c6
  obtain ⟨c0, c1, c2, c3, c4, c5, c6⟩ := HB3.out.cells
  have fb := fun i => HB3.out.rf.frozen i
  simp only
  go_upto_region 10 with (fail)
  have hT : Touch (· = w.heap.size) w3 (((((((w3.setCell ⟨w.heap.size, 0, none⟩ (.int .i64 y.R)).setCell ⟨w.heap.size, 1, none⟩ (.int .i64 y.H)).setCell ⟨w.heap.size, 2, none⟩ (.int .i64 y.MR)).setCell ⟨w.heap.size, 3, none⟩ (.int .i64 y.window)).setCell ⟨w.heap.size, 4, none⟩ (.slice A y.buf.length c)).setCell ⟨w.heap.size, 5, none⟩ (.slice I y.inbox.length ci)).setCell ⟨w.heap.size, 6, none⟩ (.slice G y.gaps.length cg)) := Touch.st7 (S := (· = w.heap.size)) (Touch.refl _ w3) rfl
  have B4 := Lib.hid (Blk.set7 HB3.out.rf (.int .i64 y.R) (.int .i64 y.H) (.int .i64 y.MR) (.int .i64 y.window) (.slice A y.buf.length c) (.slice I y.inbox.length ci) (.slice G y.gaps.length cg))
  have Z4 := Lib.hid (hT.blk HB3.out.res (fun e => by omega))
  have R4 := Lib.hid (R3.out.touch hT (fun k hk e => by have := hF.out k hk; omega))
  have T4 : Hid (Touch F w (((((((w3.setCell ⟨w.heap.size, 0, none⟩ (.int .i64 y.R)).setCell ⟨w.heap.size, 1, none⟩ (.int .i64 y.H)).setCell ⟨w.heap.size, 2, none⟩ (.int .i64 y.MR)).setCell ⟨w.heap.size, 3, none⟩ (.int .i64 y.window)).setCell ⟨w.heap.size, 4, none⟩ (.slice A y.buf.length c)).setCell ⟨w.heap.size, 5, none⟩ (.slice I y.inbox.length ci)).setCell ⟨w.heap.size, 6, none⟩ (.slice G y.gaps.length cg))) := T3.out.trans hT (fun k hk e => by omega)
  have S4 := Lib.hid (S3.out.touch hT (fun ad e e2 => by have := SB2.out ad e; omega))
  clear hT HB3 R3 T3 S3 c0 c1 c2 c3 c4 c5 c6 fb
  generalize (((((((w3.setCell ⟨w.heap.size, 0, none⟩ (.int .i64 y.R)).setCell ⟨w.heap.size, 1, none⟩ (.int .i64 y.H)).setCell ⟨w.heap.size, 2, none⟩ (.int .i64 y.MR)).setCell ⟨w.heap.size, 3, none⟩ (.int .i64 y.window)).setCell ⟨w.heap.size, 4, none⟩ (.slice A y.buf.length c)).setCell ⟨w.heap.size, 5, none⟩ (.slice I y.inbox.length ci)).setCell ⟨w.heap.size, 6, none⟩ (.slice G y.gaps.length cg)) = w4 at *
  obtain ⟨b2, hb2⟩ : ∃ b2, b2 = w.heap.size + 1 + 1 := ⟨_, rfl⟩
  obtain ⟨b0, hb0⟩ : ∃ b0, b0 = w.heap.size := ⟨_, rfl⟩
  rw [← hb2] at Z4 SB2 ⊢
  rw [← hb0] at B4 ⊢
  have HB2 : Hid (b2 = w.heap.size + 1 + 1 ∧ b0 = w.heap.size) := ⟨hb2, hb0⟩
  clear hb2 hb0
  have KT : Hid (∀ W, Touch (· = b2) w4 W → W.cell? ⟨b0, 0, none⟩ = some (.int .i64 y.R) ∧ W.cell? ⟨b0, 1, none⟩ = some (.int .i64 y.H) ∧ W.cell? ⟨b0, 2, none⟩ = some (.int .i64 y.MR) ∧ W.cell? ⟨b0, 3, none⟩ = some (.int .i64 y.window) ∧ W.cell? ⟨b0, 4, none⟩ = some (.slice A y.buf.length c) ∧ W.cell? ⟨b0, 5, none⟩ = some (.slice I y.inbox.length ci) ∧ W.cell? ⟨b0, 6, none⟩ = some (.slice G y.gaps.length cg)) := fun W ht => by
    have hb := ht.blk B4.out (fun e => by have := HB2.out; omega)
    exact ⟨hb.cell 0, hb.cell 1, hb.cell 2, hb.cell 3, hb.cell 4, hb.cell 5, hb.cell 6⟩
  have KE : Hid (∀ W, Fresh w4 W → W.cell? ⟨b0, 0, none⟩ = some (.int .i64 y.R) ∧ W.cell? ⟨b0, 1, none⟩ = some (.int .i64 y.H) ∧ W.cell? ⟨b0, 2, none⟩ = some (.int .i64 y.MR) ∧ W.cell? ⟨b0, 3, none⟩ = some (.int .i64 y.window) ∧ W.cell? ⟨b0, 4, none⟩ = some (.slice A y.buf.length c) ∧ W.cell? ⟨b0, 5, none⟩ = some (.slice I y.inbox.length ci) ∧ W.cell? ⟨b0, 6, none⟩ = some (.slice G y.gaps.length cg)) := fun W ht => KT.out W (ht.mono (fun _ _ h => h.elim))
  have ZE : Hid (∀ W, Fresh w4 W → (W.cell? ⟨b2, 0, none⟩ = some (.int .i64 0) ∧ W.cell? ⟨b2, 1, none⟩ = some (.int .i64 0) ∧ W.cell? ⟨b2, 2, none⟩ = some (.int .i64 0) ∧ W.cell? ⟨b2, 3, none⟩ = some (.int .i64 0) ∧ W.cell? ⟨b2, 4, none⟩ = some (.slice none 0 0) ∧ W.cell? ⟨b2, 5, none⟩ = some (.slice none 0 0) ∧ W.cell? ⟨b2, 6, none⟩ = some (.slice none 0 0)) ∧ ∀ i, W.frozen? ⟨b2, i, none⟩ = false) := fun W ht => by
    have hb := ht.blk Z4.out (fun h => h)
    exact ⟨⟨hb.cell 0, hb.cell 1, hb.cell 2, hb.cell 3, hb.cell 4, hb.cell 5, hb.cell 6⟩, fun i => hb.frozen i⟩
  have HM4 : Hid (∀ W, Fresh w4 W → Calls Try.prog 43 #[.agg #[.int .i64 y.R, .int .i64 y.H, .int .i64 y.MR, .int .i64 y.window, .slice A y.buf.length c, .slice I y.inbox.length ci, .slice G y.gaps.length cg]] W fun e w' => ∃ A' c', e = .returned (.slice A' M.length c') ∧ Mine intE W w' A' c' M) := fun W ht => HMI.out W (T4.out.trans ht (fun _ _ h => h.elim))
  have HN4 : Hid (∀ W A' c', Fresh w4 W → Rd intE W A' c' M → Calls Try.prog 42 #[.slice B l.length d, .slice A' M.length c'] W fun e w' => e = .returned (.bool true) ∧ Fresh W w') := fun W A' c' ht hr =>
    named12_any B A' d c' l M W (S4.out.touch ht (fun _ _ h => h)).rd hr (by omega) (by omega) HNM.out
  have HX : Hid (∀ W, Touch (· = b2) w4 W → StepPost w p F D y (.returned (.tuple #[.agg #[.int .i64 y.R, .int .i64 y.H, .int .i64 y.MR, .int .i64 y.window, .slice A y.buf.length c, .slice I y.inbox.length ci, .slice G y.gaps.length cg], .bool true])) W) := fun W hT =>
    HI.out.same (T4.out.trans hT (fun k hk e => by have := HB2.out; omega)) (R4.out.touch hT (fun k hk e => by have := hF.out k hk; have := HB2.out; omega)) HPP.out
  clear HMI HNM S4 B4 Z4 R4 T4 HI HPP SB2 hF HB2
  have g4 : Fresh w4 w4.drew := (Touch.refl _ _).drew
  go_region_held3 (fun wx => wx.cell? ⟨b0, 0, none⟩ = some (.int .i64 y.R) ∧ wx.cell? ⟨b0, 1, none⟩ = some (.int .i64 y.H) ∧ wx.cell? ⟨b0, 2, none⟩ = some (.int .i64 y.MR) ∧ wx.cell? ⟨b0, 3, none⟩ = some (.int .i64 y.window) ∧ wx.cell? ⟨b0, 4, none⟩ = some (.slice A y.buf.length c) ∧ wx.cell? ⟨b0, 5, none⟩ = some (.slice I y.inbox.length ci) ∧ wx.cell? ⟨b0, 6, none⟩ = some (.slice G y.gaps.length cg))
    (first
      | with_reducible exact KE.out _ (by with_reducible assumption)
      | exact KT.out _ (Touch.st7 (S := (· = b2)) (g8.mono (fun _ _ h => h.elim)) rfl)
      | with_reducible assumption)
    (first
      | (go_simp; go_at_call 41; with_reducible refine (HO1.out _).mono ?_; rintro e' w5 ⟨rfl, f5⟩; have g5 : Fresh w4 w5 := g4.trans f5 (fun _ _ h => h))
      | (go_simp; go_at_call 41; with_reducible refine (HO2.out _).mono ?_; rintro e' w6 ⟨rfl, f6⟩; have g6 : Fresh w4 w6 := g5.trans f6 (fun _ _ h => h))
      | (go_simp; go_at_call 43; with_reducible refine (HM4.out _ (by with_reducible assumption)).mono ?_; rintro e' w7 ⟨A7, c7, rfl, m7⟩; have g7 : Fresh w4 w7 := g6.trans m7.fresh (fun _ _ h => h); have rd7 := m7.sl.rd; clear m7)
      | (go_simp; go_at_call 42; with_reducible refine (HN4.out _ _ _ (by with_reducible assumption) (by with_reducible assumption)).mono ?_; rintro e' w8 ⟨rfl, f8⟩; have g8 : Fresh w4 w8 := g7.trans f8 (fun _ _ h => h); obtain ⟨⟨z0, z1, z2, z3, z4, z5, z6⟩, fz⟩ := ZE.out w8 g8))
  all_goals
    have G8 := Lib.hid g8
    clear g8 g7 g6 g5 g4 f5 f6 f8 rd7 KE KT ZE HM4 HN4 HO1 HO2
    go_wp2
    refine bodyPost_ret (v := _) (by simp [results, Try.results24, go_sem, z0, z1, z2, z3, z4, z5, z6]) rfl (HX.out _ (Touch.st7 (S := (· = b2)) (G8.out.mono (fun _ _ h => h.elim)) rfl))
end Go.Proofs.Ytpjmgdoekeknjaa

namespace Go.Proofs.Ytpjmgdoekeknjaa
open Go.RowKit

theorem StIn.gapped {w W : World} {p : Nat} {F D : Nat → Prop} {A I G G' : Option Addr} {c ci cg cg' : Nat} {L L' : List (Option Nat)} {x y : Rf.S} {lo hi : Int} (h : StIn w p F D A c I ci G cg L x lo hi) (ht : Touch F w W) (hr : RecvAt W p F (Rf.prog y)) (hi2 : RfIn W A c I ci G' cg' L' y)
    (hG : ∀ ad, G' = some ad → ∃ ad0, G = some ad0 ∧ ad.block = ad0.block) (hL : ∀ b, some b ∈ L' → some b ∈ L) : StepPost w p F D y (.returned (.tuple #[rfV y A c I ci G' cg', .bool true])) W := by
  refine ⟨_, F, D, rfl, hr, RfIn.at_ (P := D) hi2 ⟨h.dom.A, h.dom.I, fun ad e => ?_, fun b e => h.dom.L b (hL b e)⟩ (fun _ h _ => h) (fun k hk => Nat.lt_of_lt_of_le (h.lim k hk) ht.size), h.off, ht, fun _ h => .inl h, fun _ h => .inl h⟩
  obtain ⟨ad0, e1, e2⟩ := hG ad e
  rw [e2]
  exact h.dom.G ad0 e1

set_option maxHeartbeats 8000000 in
set_option maxRecDepth 4000 in
theorem step12_gap {lo hi : Int} (p : Nat) (F D : Nat → Prop) (A : Option Addr) (c : Nat) (I : Option Addr) (ci : Nat) (G : Option Addr) (cg : Nat) (L : List (Option Nat)) (x : Rf.S) (a : Act12) (w : World) (h : StIn w p F D A c I ci G cg L x lo hi) (hk : a.kind = 3) {y : Rf.S} (hy : (Rf.gap x).1 = y) :
    Calls Try.prog 24 #[.pointer (some ⟨p, 0, none⟩), rfV x A c I ci G cg, act12V a] w (StepPost w p F D y) := by
  have HI := Lib.hid h
  have b1 := h.ok.lo0
  have b2 := h.ok.lor
  have b3 := h.ok.rhi
  have b4 := h.ok.hl
  have b5 := h.ok.hm
  have b6 := h.ok.sum
  have b7 := h.ok.win
  have b8 := h.ok.rh
  have HB := Lib.hid (StBox.new w A c I ci G cg x a)
  have F1 : Hid (Fresh w (((w.alloc (.cells #[.int .i64 x.R, .int .i64 x.H, .int .i64 x.MR, .int .i64 x.window, .slice A x.buf.length c, .slice I x.inbox.length ci, .slice G x.gaps.length cg] 52)).alloc
    (.cells #[.int .i64 a.kind, .int .i64 a.n, .bool a.raw, .string a.m] 57)).alloc (.cells #[.int .i64 0, .int .i64 0, .int .i64 0, .int .i64 0, .slice none 0 0, .slice none 0 0, .slice none 0 0] 52))) := (((Touch.refl _ _).alloc _).alloc _).alloc _
  have hok := h.ok.gap
  obtain ⟨q, hq⟩ : ∃ q, (Rf.gap x).2.2.2 = q := ⟨_, rfl⟩
  obtain ⟨f, hf⟩ : ∃ f, (Rf.gap x).2.1 = f := ⟨_, rfl⟩
  obtain ⟨t, ht⟩ : ∃ t, (Rf.gap x).2.2.1 = t := ⟨_, rfl⟩
  have HST : Hid (∀ W, Fresh w W → Calls Try.prog 15 #[.pointer (some ⟨p, 0, none⟩)] W fun e w' => ∃ B d l, e = .returned (.tuple #[.slice B l.length d, .int .u32 (if q then y.R % 16777216 else 0), .int .u32 (if q then y.MR % 16777216 else 0), .bool q]) ∧ RecvAt w' p F (Rf.prog y) ∧ Touch F W w' ∧
      Sl numE w' B d l ∧ (∀ ad, B = some ad → W.heap.size ≤ ad.block) ∧ l = if q then [f % 16777216, t % 16777216] else []) := fun W hF => by
    refine (rgap_any p F (Rf.prog x) W (h.recv.old hF) (by rw [h.ok.dist]; omega) (by show 0 ≤ x.window ∧ x.window ≤ 64; omega) (by show x.inbox.length ≤ 1000000; have := h.ok.ilen; omega) (by show (Rf.pg x.gaps).length ≤ 1000000; have := h.ok.glen; simp [Rf.pg]; omega)).mono ?_
    rintro e w' ⟨B, d, l, is, st', rfl, g1, r1, r2, r3, r4⟩
    obtain ⟨e1, e2, _, _, e5, e6⟩ := h.ok.told g1
    subst e1
    rw [hq] at e2
    subst e2
    rw [hy] at r1 ⊢
    rw [hf, ht] at e5
    refine ⟨B, d, l, rfl, r1, r2, r3, r4, ?_⟩
    cases is
    · exact e6 rfl
    · exact e5 rfl
  have HGP : Hid (∀ W, Touch F w W → Calls Try.prog 44 #[.agg #[.int .i64 x.R, .int .i64 x.H, .int .i64 x.MR, .int .i64 x.window, .slice A x.buf.length c, .slice I x.inbox.length ci, .slice G x.gaps.length cg]] W fun e w' => ∃ G' cg' L', e = .returned (.tuple #[.agg #[.int .i64 y.R, .int .i64 y.H, .int .i64 y.MR, .int .i64 y.window, .slice A y.buf.length c, .slice I y.inbox.length ci, .slice G' y.gaps.length cg'], .int .i64 f, .int .i64 t, .bool q]) ∧ RfIn w' A c I ci G' cg' L' y ∧
      (∀ ad, G' = some ad → ∃ ad0, G = some ad0 ∧ ad.block = ad0.block) ∧ (∀ b, some b ∈ L' → some b ∈ L) ∧ Fresh W w') := fun W hT => by
    have := rfgap_any A c I ci G cg L x W (h.ins.touch h.dom hT (fun k hk hf => h.off k hf hk)) h.ok
    unfold RfGapPost at this
    rw [hy, hf, ht, hq] at this
    exact this
  have HO1 := Lib.hid (lof_fr f)
  have HO2 := Lib.hid (lof_fr t)
  have HO3 := Lib.hid (lof_fr y.R)
  have HO4 := Lib.hid (lof_fr y.MR)
  obtain ⟨r1, hr1⟩ : ∃ r1 : Int, (if q = true then y.R % 16777216 else 0) = r1 := ⟨_, rfl⟩
  obtain ⟨r3, hr3⟩ : ∃ r3 : Int, (if q = true then y.MR % 16777216 else 0) = r3 := ⟨_, rfl⟩
  rw [hr1, hr3] at HST
  have HR1 := Lib.hid hr1
  have HR3 := Lib.hid hr3
  clear h hy hok hq hf ht hr1 hr3
  unfold rfV
  unfold act12V
  rw [hk] at HB F1 ⊢
  have hk0 : Hid (a.kind = _) := hk
  clear hk
  go_enter Try.func24, Try.ntmps24
  go_upto_region 12 with (fail)
  generalize (World.alloc (World.alloc (World.alloc w _) _) _) = w1 at HB F1 ⊢
  go_wp2_with fail
  refine (HST.out w1 F1.out).mono ?_
  rintro e w2 ⟨B, d, l, rfl, r1', t2, s2, sb2, hl⟩
  have hF : Hid (∀ k, F k → k < w.heap.size) := HI.out.recv.lim
  have HB2 := Lib.hid (HB.out.touch t2 hF.out)
  have R2 := Lib.hid r1'
  have T2 : Hid (Touch F w w2) := (F1.out.mono (fun _ _ h => h.elim)).trans t2 (fun _ _ h => h)
  have S2 := Lib.hid s2
  have SB2 : Hid (∀ ad, B = some ad → w.heap.size + 1 + 1 < ad.block) := fun ad e => by
    have h1 := sb2 ad e
    have h2 := HB.out.res.lt
    omega
  have HL := Lib.hid hl
  clear r1' t2 s2 sb2 hl HST HB F1
  obtain ⟨c0, c1, c2, c3, c4, c5, c6⟩ := HB2.out.cells
  simp only
  go_wp2_with fail
  refine (HGP.out w2 T2.out).mono ?_
  rintro e w3 ⟨G', cg', L', rfl, i3, hG, hL, f3⟩
  have HB3 := Lib.hid (HB2.out.touch f3 (fun _ h => h.elim))
  have R3 := Lib.hid (R2.out.old f3)
  have T3 : Hid (Touch F w w3) := T2.out.trans f3 (fun _ _ h => h.elim)
  have S3 := Lib.hid (S2.out.touch f3 (fun _ _ h => h))
  have I3 := Lib.hid i3
  have HGL : Hid ((∀ ad, G' = some ad → ∃ ad0, G = some ad0 ∧ ad.block = ad0.block) ∧ (∀ b, some b ∈ L' → some b ∈ L)) := ⟨hG, hL⟩
  clear f3 HB2 R2 T2 S2 HGP c0 c1 c2 c3 c4 c5 c6 i3 hG hL
  simp only
  go_upto_region 14 with (fail)
  have B4 := Lib.hid (Blk.new w3 52 (rfCells y A c I ci G' cg'))
  have ft : Fresh w3 (w3.alloc (.cells (rfCells y A c I ci G' cg').toArray 52)) := (Touch.refl _ _).alloc _
  have HB4 := Lib.hid (HB3.out.touch ft (fun _ h => h.elim))
  have R4 := Lib.hid (R3.out.old ft)
  have T4 := Lib.hid (T3.out.alloc (.cells (rfCells y A c I ci G' cg').toArray 52))
  have S4 := Lib.hid (S3.out.alloc (.cells (rfCells y A c I ci G' cg').toArray 52))
  have I4 := Lib.hid (I3.out.old ft)
  have hsz3 : w.heap.size + 1 + 1 < w3.heap.size := HB3.out.res.lt
  clear HB3 R3 T3 S3 I3 ft
  generalize hw4 : World.alloc w3 _ = w4
  have B4' : Hid (Blk w4 w3.heap.size 52 (rfCells y A c I ci G' cg')) := hw4 ▸ B4.out
  have HB4' : Hid (StBox w w4 A c I ci G cg x a) := hw4 ▸ HB4.out
  have R4' : Hid (RecvAt w4 p F (Rf.prog y)) := hw4 ▸ R4.out
  have T4' : Hid (Touch F w w4) := hw4 ▸ T4.out
  have S4' : Hid (Sl numE w4 B d l) := hw4 ▸ S4.out
  have I4' : Hid (RfIn w4 A c I ci G' cg' L' y) := hw4 ▸ I4.out
  clear B4 HB4 R4 T4 S4 I4 hw4
  obtain ⟨b2, hb2⟩ : ∃ b2, b2 = w.heap.size + 1 + 1 := ⟨_, rfl⟩
  obtain ⟨b0, hb0⟩ : ∃ b0, b0 = w3.heap.size := ⟨_, rfl⟩
  have Z4 := Lib.hid HB4'.out.res
  rw [← hb2] at Z4 SB2 hsz3 ⊢
  rw [← hb0] at B4' hsz3 ⊢
  have HB2 : Hid (b2 = w.heap.size + 1 + 1) := hb2
  clear hb2 hb0 HB4'
  have HX : Hid (∀ W, Touch (· = b2) w4 W → StepPost w p F D y (.returned (.tuple #[.agg #[.int .i64 y.R, .int .i64 y.H, .int .i64 y.MR, .int .i64 y.window, .slice A y.buf.length c, .slice I y.inbox.length ci, .slice G' y.gaps.length cg'], .bool true])) W) := fun W hT =>
    HI.out.gapped (T4'.out.trans hT (fun k hk e => by have := HB2.out; omega)) (R4'.out.touch hT (fun k hk e => by have := hF.out k hk; have := HB2.out; omega)) (I4'.out.far Z4.out hT) HGL.out.1 HGL.out.2
  clear HI R4' T4' I4' HGL hF
  cases q with
  | false =>
    have hl0 : l = [] := HL.out
    subst hl0
    obtain rfl : (0 : Int) = r1 := HR1.out
    obtain rfl : (0 : Int) = r3 := HR3.out
    obtain ⟨d0, d1, d2, d3, d4, d5, d6⟩ : w4.cell? ⟨b0, 0, none⟩ = some (.int .i64 y.R) ∧ w4.cell? ⟨b0, 1, none⟩ = some (.int .i64 y.H) ∧ w4.cell? ⟨b0, 2, none⟩ = some (.int .i64 y.MR) ∧ w4.cell? ⟨b0, 3, none⟩ = some (.int .i64 y.window) ∧ w4.cell? ⟨b0, 4, none⟩ = some (.slice A y.buf.length c) ∧ w4.cell? ⟨b0, 5, none⟩ = some (.slice I y.inbox.length ci) ∧ w4.cell? ⟨b0, 6, none⟩ = some (.slice G' y.gaps.length cg') := ⟨B4'.out.cell 0, B4'.out.cell 1, B4'.out.cell 2, B4'.out.cell 3, B4'.out.cell 4, B4'.out.cell 5, B4'.out.cell 6⟩
    obtain ⟨z0, z1, z2, z3, z4, z5, z6⟩ : w4.cell? ⟨b2, 0, none⟩ = some (.int .i64 0) ∧ w4.cell? ⟨b2, 1, none⟩ = some (.int .i64 0) ∧ w4.cell? ⟨b2, 2, none⟩ = some (.int .i64 0) ∧ w4.cell? ⟨b2, 3, none⟩ = some (.int .i64 0) ∧ w4.cell? ⟨b2, 4, none⟩ = some (.slice none 0 0) ∧ w4.cell? ⟨b2, 5, none⟩ = some (.slice none 0 0) ∧ w4.cell? ⟨b2, 6, none⟩ = some (.slice none 0 0) := ⟨Z4.out.cell 0, Z4.out.cell 1, Z4.out.cell 2, Z4.out.cell 3, Z4.out.cell 4, Z4.out.cell 5, Z4.out.cell 6⟩
    have fz := fun i => Z4.out.frozen i
    clear B4' Z4 S4' SB2 HL HO1 HO2 HO3 HO4 HB2 HR1 HR3
    simp only [List.length_nil]
    go_wp2
    refine bodyPost_ret (v := _) (by simp [results, Try.results24, go_sem, z0, z1, z2, z3, z4, z5, z6]) rfl (HX.out _ (Touch.st7 (S := (· = b2)) (Touch.refl _ w4) rfl))
  | true =>
    have hl0 : l = [f % 16777216, t % 16777216] := HL.out
    subst hl0
    obtain rfl : y.R % 16777216 = r1 := HR1.out
    obtain rfl : y.MR % 16777216 = r3 := HR3.out
    obtain ⟨gl, ol, rfl, hgl, hl0⟩ := S4'.out.num_at 0 (by simp)
    obtain ⟨_, _, e7, _, hl1⟩ := S4'.out.num_at 1 (by simp)
    injection e7 with e7
    injection e7 with e7 e8 _
    subst e7 e8
    have hglb : b2 < gl := SB2.out _ rfl
    simp only [List.length_cons, List.length_nil]
    simp only [List.getD_cons_zero, List.getD_cons_succ, Nat.add_zero] at hl0 hl1
    generalize f % 16777216 = f' at *
    generalize t % 16777216 = t' at *
    generalize y.R % 16777216 = r1 at *
    generalize y.MR % 16777216 = r3 at *
    have KT : Hid (∀ W, Touch (· = b2) w4 W → (W.cell? ⟨b0, 0, none⟩ = some (.int .i64 y.R) ∧ W.cell? ⟨b0, 1, none⟩ = some (.int .i64 y.H) ∧ W.cell? ⟨b0, 2, none⟩ = some (.int .i64 y.MR) ∧ W.cell? ⟨b0, 3, none⟩ = some (.int .i64 y.window) ∧ W.cell? ⟨b0, 4, none⟩ = some (.slice A y.buf.length c) ∧ W.cell? ⟨b0, 5, none⟩ = some (.slice I y.inbox.length ci) ∧ W.cell? ⟨b0, 6, none⟩ = some (.slice G' y.gaps.length cg')) ∧ W.cell? ⟨gl, ol, none⟩ = some (.int .u32 f') ∧ W.cell? ⟨gl, ol + 1, none⟩ = some (.int .u32 t')) := fun W ht => by
      have hb := ht.blk B4'.out (fun e => by omega)
      have hs := S4'.out.touch ht (fun ad e e2 => by have := SB2.out ad e; omega)
      obtain ⟨_, _, e7, _, q0⟩ := hs.num_at 0 (by simp)
      injection e7 with e7
      injection e7 with e7 e8 _
      subst e7 e8
      obtain ⟨_, _, e7, _, q1⟩ := hs.num_at 1 (by simp)
      injection e7 with e7
      injection e7 with e7 e8 _
      subst e7 e8
      exact ⟨⟨hb.cell 0, hb.cell 1, hb.cell 2, hb.cell 3, hb.cell 4, hb.cell 5, hb.cell 6⟩, by simpa using q0, by simpa using q1⟩
    have KE : Hid (∀ W, Fresh w4 W → (W.cell? ⟨b0, 0, none⟩ = some (.int .i64 y.R) ∧ W.cell? ⟨b0, 1, none⟩ = some (.int .i64 y.H) ∧ W.cell? ⟨b0, 2, none⟩ = some (.int .i64 y.MR) ∧ W.cell? ⟨b0, 3, none⟩ = some (.int .i64 y.window) ∧ W.cell? ⟨b0, 4, none⟩ = some (.slice A y.buf.length c) ∧ W.cell? ⟨b0, 5, none⟩ = some (.slice I y.inbox.length ci) ∧ W.cell? ⟨b0, 6, none⟩ = some (.slice G' y.gaps.length cg')) ∧ W.cell? ⟨gl, ol, none⟩ = some (.int .u32 f') ∧ W.cell? ⟨gl, ol + 1, none⟩ = some (.int .u32 t')) := fun W ht => KT.out W (ht.mono (fun _ _ h => h.elim))
    have ZE : Hid (∀ W, Fresh w4 W → (W.cell? ⟨b2, 0, none⟩ = some (.int .i64 0) ∧ W.cell? ⟨b2, 1, none⟩ = some (.int .i64 0) ∧ W.cell? ⟨b2, 2, none⟩ = some (.int .i64 0) ∧ W.cell? ⟨b2, 3, none⟩ = some (.int .i64 0) ∧ W.cell? ⟨b2, 4, none⟩ = some (.slice none 0 0) ∧ W.cell? ⟨b2, 5, none⟩ = some (.slice none 0 0) ∧ W.cell? ⟨b2, 6, none⟩ = some (.slice none 0 0)) ∧ ∀ i, W.frozen? ⟨b2, i, none⟩ = false) := fun W ht => by
      have hb := ht.blk Z4.out (fun h => h)
      exact ⟨⟨hb.cell 0, hb.cell 1, hb.cell 2, hb.cell 3, hb.cell 4, hb.cell 5, hb.cell 6⟩, fun i => hb.frozen i⟩
    clear B4' Z4 S4' SB2 HL HB2 hl0 hl1
    go_upto_region 16 with (fail)
    have g4 : Fresh w4 w4.drew := (Touch.refl _ _).drew
    go_region_held3 (fun wx => (wx.cell? ⟨b0, 0, none⟩ = some (.int .i64 y.R) ∧ wx.cell? ⟨b0, 1, none⟩ = some (.int .i64 y.H) ∧ wx.cell? ⟨b0, 2, none⟩ = some (.int .i64 y.MR) ∧ wx.cell? ⟨b0, 3, none⟩ = some (.int .i64 y.window) ∧ wx.cell? ⟨b0, 4, none⟩ = some (.slice A y.buf.length c) ∧ wx.cell? ⟨b0, 5, none⟩ = some (.slice I y.inbox.length ci) ∧ wx.cell? ⟨b0, 6, none⟩ = some (.slice G' y.gaps.length cg')) ∧ wx.cell? ⟨gl, ol, none⟩ = some (.int .u32 f') ∧ wx.cell? ⟨gl, ol + 1, none⟩ = some (.int .u32 t'))
      (first
        | with_reducible exact KE.out _ (by with_reducible assumption)
        | exact KT.out _ (Touch.st7 (S := (· = b2)) (g8.mono (fun _ _ h => h.elim)) rfl)
        | with_reducible assumption)
      (first
        | (go_simp; go_at_call 41; with_reducible refine (HO1.out _).mono ?_; rintro e' w5 ⟨rfl, f5⟩; have g5 : Fresh w4 w5 := g4.trans f5 (fun _ _ h => h))
        | (go_simp; go_at_call 41; with_reducible refine (HO2.out _).mono ?_; rintro e' w6 ⟨rfl, f6⟩; have g6 : Fresh w4 w6 := g5.trans f6 (fun _ _ h => h))
        | (go_simp; go_at_call 41; with_reducible refine (HO3.out _).mono ?_; rintro e' w7 ⟨rfl, f7⟩; have g7 : Fresh w4 w7 := g6.trans f7 (fun _ _ h => h))
        | (go_simp; go_at_call 41; with_reducible refine (HO4.out _).mono ?_; rintro e' w8 ⟨rfl, f8⟩; have g8 : Fresh w4 w8 := g7.trans f8 (fun _ _ h => h); obtain ⟨⟨z0, z1, z2, z3, z4, z5, z6⟩, fz⟩ := ZE.out w8 g8))
    all_goals
      have G8 := Lib.hid g8
      clear g8 g7 g6 g5 g4 f5 f6 f7 f8 KE KT ZE HO1 HO2 HO3 HO4
      go_wp2
      refine bodyPost_ret (v := _) (by simp [results, Try.results24, go_sem, z0, z1, z2, z3, z4, z5, z6]) rfl (HX.out _ (Touch.st7 (S := (· = b2)) (G8.out.mono (fun _ _ h => h.elim)) rfl))
end Go.Proofs.Ytpjmgdoekeknjaa

namespace Go.Proofs.Ytpjmgdoekeknjaa
open Go.RowKit

set_option maxHeartbeats 8000000 in
set_option maxRecDepth 4000 in
theorem step12_take {lo hi : Int} (p : Nat) (F D : Nat → Prop) (A : Option Addr) (c : Nat) (I : Option Addr) (ci : Nat) (G : Option Addr) (cg : Nat) (L : List (Option Nat)) (x : Rf.S) (a : Act12) (w : World) (h : StIn w p F D A c I ci G cg L x lo hi) (hk : a.kind = 4) {y : Rf.S} (hy : { x with inbox := x.inbox.drop (max 0 (min a.n (x.inbox.length : Int))).toNat } = y) :
    Calls Try.prog 24 #[.pointer (some ⟨p, 0, none⟩), rfV x A c I ci G cg, act12V a] w (StepPost w p F D y) := by
  have HI := Lib.hid h
  have b1 := h.ok.lo0
  have b2 := h.ok.lor
  have b3 := h.ok.rhi
  have b4 := h.ok.hl
  have b5 := h.ok.hm
  have b6 := h.ok.sum
  have b7 := h.ok.win
  have b8 := h.ok.rh
  have HB := Lib.hid (StBox.new w A c I ci G cg x a)
  have F1 : Hid (Fresh w (((w.alloc (.cells #[.int .i64 x.R, .int .i64 x.H, .int .i64 x.MR, .int .i64 x.window, .slice A x.buf.length c, .slice I x.inbox.length ci, .slice G x.gaps.length cg] 52)).alloc
    (.cells #[.int .i64 a.kind, .int .i64 a.n, .bool a.raw, .string a.m] 57)).alloc (.cells #[.int .i64 0, .int .i64 0, .int .i64 0, .int .i64 0, .slice none 0 0, .slice none 0 0, .slice none 0 0] 52))) := (((Touch.refl _ _).alloc _).alloc _).alloc _
  obtain ⟨j, hj⟩ : ∃ j : Nat, max 0 (min a.n (x.inbox.length : Int)) = (j : Int) := ⟨(max 0 (min a.n (x.inbox.length : Int))).toNat, by omega⟩
  have hjl : j ≤ x.inbox.length := by omega
  have hil := h.ok.ilen
  rw [hj, Int.toNat_natCast] at hy
  have HTK : Hid (∀ W, Fresh w W → Calls Try.prog 21 #[.pointer (some ⟨p, 0, none⟩), .int .i64 a.n] W fun e w' => ∃ F' A' c', e = .returned (.slice A' j c') ∧ Sl strE w' A' c' (x.inbox.take j) ∧ RecvAt w' p F' (Rf.prog y) ∧ Touch F W w' ∧ (∀ k, F' k → F k ∨ W.heap.size ≤ k) ∧ ∀ ad, A' = some ad → W.heap.size ≤ ad.block) := fun W hf => by
    refine (rtake_any p F (Rf.prog x) a.n W (h.recv.old hf) (by show x.inbox.length ≤ 100000; omega) j hj).mono ?_
    rintro e w' ⟨F', A', c', rfl, r1, r2, r3, r4, r5⟩
    refine ⟨F', A', c', ?_, r1, ?_, r3, r4, fun ad e => (r5 ad e).1⟩
    · show Ending.returned (.slice A' (x.inbox.take j).length c') = _
      rw [List.length_take, Nat.min_eq_left hjl]
    · rw [← hy]
      exact r2
  have HIU : Hid (∀ W, Touch F w W → Rd strE W I ci (x.inbox.take j)) := fun W hT => (h.ins.touch h.dom hT (fun k hk hf => h.off k hf hk)).inb.rd.upto hjl
  have hic := h.ins.inb.1
  have hicm := h.ins.inb.2.1
  unfold maxLen at hicm
  have hi0 := h.ins.inb.2.2.1
  have hisp : ∀ ad, I = some ad → ad.spot = none := fun ad e => (h.ins.inb.2.2.2 ad e).1
  obtain ⟨I2, hI2⟩ : ∃ I2, I2 = (if ci = j then I else I.map (·.add (j * strE.size))) := ⟨_, rfl⟩
  have HI2 : Hid (∀ W, Touch F w W → Sl strE W I2 (ci - j) (x.inbox.drop j)) := fun W hT => by
    rw [hI2]
    exact (h.ins.touch h.dom hT (fun k hk hf => h.off k hf hk)).inb.from_ hjl
  have HIB : Hid (∀ ad, I2 = some ad → ∃ ad0, I = some ad0 ∧ ad.block = ad0.block) := fun ad e => by
    rw [hI2] at e
    split at e
    · exact ⟨ad, e, rfl⟩
    · obtain ⟨ad0, e1, rfl⟩ := Option.map_eq_some_iff.1 e
      exact ⟨ad0, e1, block_of_add _ _⟩
  have HYI : Hid (y.inbox = x.inbox.drop j ∧ y.buf = x.buf ∧ y.gaps = x.gaps) := by rw [← hy]; exact ⟨rfl, rfl, rfl⟩
  have HYV : Hid (y.R = x.R ∧ y.H = x.H ∧ y.MR = x.MR ∧ y.window = x.window ∧ y.inbox.length = x.inbox.length - j) := by rw [← hy]; exact ⟨rfl, rfl, rfl, rfl, List.length_drop⟩
  have HTL : Hid ((x.inbox.take j).length = j) := by unfold Hid; rw [List.length_take]; omega
  clear h hy
  unfold rfV
  unfold act12V
  rw [hk] at HB F1 ⊢
  have hk0 : Hid (a.kind = _) := hk
  clear hk
  generalize x.inbox.take j = tk at *
  generalize hilx : x.inbox.length = il at *
  go_enter Try.func24, Try.ntmps24
  go_upto_region 18 with (fail)
  generalize (World.alloc (World.alloc (World.alloc w _) _) _) = w1 at HB F1 ⊢
  obtain ⟨c0, c1, c2, c3, c4, c5, c6⟩ := HB.out.cells
  obtain ⟨a0, a1, a2, a3⟩ := HB.out.acts
  rw [hilx] at c5
  have hilx2 := Lib.hid hilx
  clear hilx
  go_wp2_with fail
  refine (HTK.out w1 F1.out).mono ?_
  rintro e w2 ⟨F', A2, d2, rfl, s2, r2, t2, g2, n2⟩
  have hF : Hid (∀ k, F k → k < w.heap.size) := HI.out.recv.lim
  have HB2 := Lib.hid (HB.out.touch t2 hF.out)
  have R2 := Lib.hid r2
  have T2 : Hid (Touch F w w2) := (F1.out.mono (fun _ _ h => h.elim)).trans t2 (fun _ _ h => h)
  have S2 := Lib.hid s2
  have hres : w.heap.size + 1 + 1 < w1.heap.size := HB.out.res.lt
  have SB2 : Hid ((∀ ad, A2 = some ad → w.heap.size + 1 + 1 < ad.block) ∧ (∀ k, F' k → F k ∨ w.heap.size + 1 + 1 < k)) := ⟨fun ad e => by have := n2 ad e; omega, fun k hk => by
    rcases g2 k hk with e | e
    · exact .inl e
    · exact .inr (by omega)⟩
  clear s2 r2 t2 g2 n2 HTK HB F1 c0 c1 c2 c3 c4 c5 c6 a0 a1 a2 a3 hj
  obtain ⟨c0, c1, c2, c3, c4, c5, c6⟩ := HB2.out.cells
  rw [hilx2.out] at c5
  have fb5 := HB2.out.rf.frozen 5
  have hj0 : (0 : Int) ≤ (j : Int) := by omega
  have hjc : (j : Int) ≤ (ci : Int) := by omega
  have hjl2 : (j : Int) ≤ (il : Int) := by omega
  have hlc2 : (il : Int) ≤ (ci : Int) := by omega
  simp only
  go_upto_region 20 with (fail)
  go_cut [25] (fun s wx => s = .slice I j ci ∧ wx = w2)
  case first =>
    cases I with
    | none =>
      have hc0 := hi0 rfl
      subst hc0
      obtain rfl : il = 0 := by omega
      obtain rfl : j = 0 := by omega
      clear HI HB2 HIU HI2 HIB R2 T2 S2
      go_wp2
      go_meet
      case rel => exact ⟨rfl, rfl⟩
    | some ad =>
      have hs := hisp ad rfl
      obtain ⟨gi, oi, sp⟩ := ad
      obtain rfl : sp = none := hs
      clear HI HB2 HIU HI2 HIB R2 T2 S2
      go_wp2
      go_meet
      case rel => exact ⟨rfl, rfl⟩
  case rest =>
  obtain ⟨rfl, rfl⟩ := hcut
  go_upto_region 21 with (fail)
  go_cut [] (fun wx => wx = wc.setCell ⟨w.heap.size, 5, none⟩ (.slice I2 (il - j) (ci - j)))
  case first =>
    cases I with
    | none =>
      have hc0 := hi0 rfl
      subst hc0
      obtain rfl : il = 0 := by omega
      obtain rfl : j = 0 := by omega
      have hI2' : I2 = none := by rw [hI2]; rfl
      subst hI2'
      clear HI HB2 HIU HI2 HIB R2 T2 S2 hI2
      go_wp2
      go_meet
      case rel => first | rfl | trivial
    | some ad =>
      have hs := hisp ad rfl
      obtain ⟨gi, oi, sp⟩ := ad
      obtain rfl : sp = none := hs
      by_cases hcj : ci = j
      · rw [if_pos hcj] at hI2
        subst hI2
        subst hcj
        obtain rfl : il = ci := by omega
        clear HI HB2 HIU HI2 HIB R2 T2 S2
        go_wp2
        go_meet
        case rel => first | rfl | trivial | simp
      · rw [if_neg hcj] at hI2
        have hI2' : I2 = some ⟨gi, oi + j, none⟩ := by rw [hI2]; simp [Addr.add_lit, strE]
        subst hI2'
        clear HI HB2 HIU HI2 HIB R2 T2 S2 hI2
        go_wp2
        go_meet
        case rel => first | rfl | trivial
  case rest =>
  subst hcut
  have hT : Touch (· = w.heap.size) wc (wc.setCell ⟨w.heap.size, 5, none⟩ (.slice I2 (il - j) (ci - j))) := Touch.set1 _ _ _ _
  have B4 : Hid (Blk (wc.setCell ⟨w.heap.size, 5, none⟩ (.slice I2 (il - j) (ci - j))) w.heap.size 52 (rfCells y A c I2 (ci - j) G cg)) := by
    have hb := HB2.out.rf.set 5 (.slice I2 (il - j) (ci - j))
    obtain ⟨y1, y2, y3, y4, y5⟩ := HYV.out
    obtain ⟨_, y6, y7⟩ := HYI.out
    have e : rfCells y A c I2 (ci - j) G cg = (rfCells x A c I ci G cg).set 5 (.slice I2 (il - j) (ci - j)) := by
      unfold rfCells
      rw [y1, y2, y3, y4, y5, y6, y7]
      rfl
    rw [e]
    exact hb
  have Z4 := Lib.hid (hT.blk HB2.out.res (fun e => by omega))
  have R4 := Lib.hid (R2.out.touch hT (fun k hk e => by
    rcases SB2.out.2 k hk with h1 | h1
    · have := hF.out k h1; omega
    · omega))
  have T4 := Lib.hid (T2.out.trans hT (fun k hk e => by omega))
  have S4 := Lib.hid (S2.out.touch hT (fun ad e e2 => by have := SB2.out.1 ad e; omega))
  clear hT HB2 R2 T2 S2 c0 c1 c2 c3 c4 c5 c6 fb5 hI2
  generalize wc.setCell ⟨w.heap.size, 5, none⟩ (.slice I2 (il - j) (ci - j)) = w4 at *
  obtain ⟨b2, hb2⟩ : ∃ b2, b2 = w.heap.size + 1 + 1 := ⟨_, rfl⟩
  obtain ⟨b0, hb0⟩ : ∃ b0, b0 = w.heap.size := ⟨_, rfl⟩
  rw [← hb2] at Z4 SB2 ⊢
  rw [← hb0] at B4 ⊢
  have HBB : Hid (b2 = w.heap.size + 1 + 1 ∧ b0 = w.heap.size) := ⟨hb2, hb0⟩
  clear hb2 hb0
  have KT : Hid (∀ W, Touch (· = b2) w4 W → W.cell? ⟨b0, 0, none⟩ = some (.int .i64 y.R) ∧ W.cell? ⟨b0, 1, none⟩ = some (.int .i64 y.H) ∧ W.cell? ⟨b0, 2, none⟩ = some (.int .i64 y.MR) ∧ W.cell? ⟨b0, 3, none⟩ = some (.int .i64 y.window) ∧ W.cell? ⟨b0, 4, none⟩ = some (.slice A y.buf.length c) ∧ W.cell? ⟨b0, 5, none⟩ = some (.slice I2 y.inbox.length (ci - j)) ∧ W.cell? ⟨b0, 6, none⟩ = some (.slice G y.gaps.length cg)) := fun W ht => by
    have hb := ht.blk B4.out (fun e => by have := HBB.out; omega)
    exact ⟨hb.cell 0, hb.cell 1, hb.cell 2, hb.cell 3, hb.cell 4, hb.cell 5, hb.cell 6⟩
  have KE : Hid (∀ W, Fresh w4 W → W.cell? ⟨b0, 0, none⟩ = some (.int .i64 y.R) ∧ W.cell? ⟨b0, 1, none⟩ = some (.int .i64 y.H) ∧ W.cell? ⟨b0, 2, none⟩ = some (.int .i64 y.MR) ∧ W.cell? ⟨b0, 3, none⟩ = some (.int .i64 y.window) ∧ W.cell? ⟨b0, 4, none⟩ = some (.slice A y.buf.length c) ∧ W.cell? ⟨b0, 5, none⟩ = some (.slice I2 y.inbox.length (ci - j)) ∧ W.cell? ⟨b0, 6, none⟩ = some (.slice G y.gaps.length cg)) := fun W ht => KT.out W (ht.mono (fun _ _ h => h.elim))
  have ZE : Hid (∀ W, Fresh w4 W → (W.cell? ⟨b2, 0, none⟩ = some (.int .i64 0) ∧ W.cell? ⟨b2, 1, none⟩ = some (.int .i64 0) ∧ W.cell? ⟨b2, 2, none⟩ = some (.int .i64 0) ∧ W.cell? ⟨b2, 3, none⟩ = some (.int .i64 0) ∧ W.cell? ⟨b2, 4, none⟩ = some (.slice none 0 0) ∧ W.cell? ⟨b2, 5, none⟩ = some (.slice none 0 0) ∧ W.cell? ⟨b2, 6, none⟩ = some (.slice none 0 0)) ∧ ∀ i, W.frozen? ⟨b2, i, none⟩ = false) := fun W ht => by
    have hb := ht.blk Z4.out (fun h => h)
    exact ⟨⟨hb.cell 0, hb.cell 1, hb.cell 2, hb.cell 3, hb.cell 4, hb.cell 5, hb.cell 6⟩, fun i => hb.frozen i⟩
  have HSA : Hid (∀ W, Fresh w4 W → Calls Try.prog 20 #[.slice A2 j d2, .slice I j ci] W fun e w' => e = .returned (.bool true) ∧ Fresh W w') := fun W ht => by
    have := sames_any A2 I d2 ci tk tk W (S4.out.touch ht (fun _ _ h => h)).rd (HIU.out W (T4.out.trans ht (fun _ _ h => h.elim)))
    rw [HTL.out] at this
    refine this.mono ?_
    rintro e w' ⟨rfl, f⟩
    exact ⟨by simp, f⟩
  have HX : Hid (∀ W, Touch (· = b2) w4 W → StepPost w p F D y (.returned (.tuple #[.agg #[.int .i64 y.R, .int .i64 y.H, .int .i64 y.MR, .int .i64 y.window, .slice A y.buf.length c, .slice I2 y.inbox.length (ci - j), .slice G y.gaps.length cg], .bool true])) W) := fun W hT => by
    have hTW : Touch F w W := T4.out.trans hT (fun k hk e => by have := HBB.out; omega)
    have hi2 := HI.out.ins.touch HI.out.dom hTW (fun k hk hf => HI.out.off k hf hk)
    refine ⟨_, F', D, rfl, R4.out.touch hT (fun k hk e => ?_), RfIn.at_ (P := D) (L := L) ⟨HYI.out.2.1 ▸ hi2.buf, HYI.out.1 ▸ HI2.out W hTW, hi2.gap, HYI.out.2.2 ▸ hi2.rows⟩ ⟨HI.out.dom.A, fun ad e => ?_, HI.out.dom.G, HI.out.dom.L⟩ (fun _ h _ => h) (fun k hk => Nat.lt_of_lt_of_le (HI.out.lim k hk) hTW.size), fun k hk hd => ?_, hTW, fun k hk => ?_, fun _ h => .inl h⟩
    · rcases SB2.out.2 k hk with h1 | h1
      · have := hF.out k h1
        have := HBB.out
        omega
      · omega
    · obtain ⟨ad0, e1, e2⟩ := HIB.out ad e
      rw [e2]
      exact HI.out.dom.I ad0 e1
    · rcases SB2.out.2 k hk with h1 | h1
      · exact HI.out.off k h1 hd
      · have := HI.out.lim k hd
        have := HBB.out
        omega
    · rcases SB2.out.2 k hk with h1 | h1
      · exact .inl h1
      · have := HBB.out
        exact .inr (by omega)
  clear HI HIU HI2 HIB R4 T4 S4 B4 Z4 SB2 hF HBB HYI HYV HTL hilx2 hk0
  go_upto_region 22 with (fail)
  have g4 : Fresh w4 w4.drew := (Touch.refl _ _).drew
  go_region_held3 (fun wx => wx.cell? ⟨b0, 0, none⟩ = some (.int .i64 y.R) ∧ wx.cell? ⟨b0, 1, none⟩ = some (.int .i64 y.H) ∧ wx.cell? ⟨b0, 2, none⟩ = some (.int .i64 y.MR) ∧ wx.cell? ⟨b0, 3, none⟩ = some (.int .i64 y.window) ∧ wx.cell? ⟨b0, 4, none⟩ = some (.slice A y.buf.length c) ∧ wx.cell? ⟨b0, 5, none⟩ = some (.slice I2 y.inbox.length (ci - j)) ∧ wx.cell? ⟨b0, 6, none⟩ = some (.slice G y.gaps.length cg))
    (first
      | with_reducible exact KE.out _ (by with_reducible assumption)
      | exact KT.out _ (Touch.st7 (S := (· = b2)) (g8.mono (fun _ _ h => h.elim)) rfl)
      | with_reducible assumption)
    (first
      | (go_simp; go_at_call 20; with_reducible refine (HSA.out _ (by with_reducible assumption)).mono ?_; rintro e' w8 ⟨rfl, f8⟩; have g8 : Fresh w4 w8 := g4.trans f8 (fun _ _ h => h); obtain ⟨⟨z0, z1, z2, z3, z4, z5, z6⟩, fz⟩ := ZE.out w8 g8))
  all_goals
    have G8 := Lib.hid g8
    clear g8 g4 f8 KE KT ZE HSA
    go_wp2
    refine bodyPost_ret (v := _) (by simp [results, Try.results24, go_sem, z0, z1, z2, z3, z4, z5, z6]) rfl (HX.out _ (Touch.st7 (S := (· = b2)) (G8.out.mono (fun _ _ h => h.elim)) rfl))
end Go.Proofs.Ytpjmgdoekeknjaa

namespace Go.Proofs.Ytpjmgdoekeknjaa
open Go.RowKit

theorem StBox.off {w wr wr' : World} {A I G : Option Addr} {c ci cg : Nat} {x : Rf.S} {a : Act12} {T : Nat → Prop} (h : StBox w wr A c I ci G cg x a) (ht : Touch T wr wr') (hT : ∀ k, T k → w.heap.size + 1 + 1 < k) : StBox w wr' A c I ci G cg x a :=
  ⟨ht.blk h.rf (fun e => by have := hT _ e; omega), ht.blk h.act (fun e => by have := hT _ e; omega), ht.blk h.res (fun e => by have := hT _ e; omega)⟩

set_option maxHeartbeats 8000000 in
set_option maxRecDepth 4000 in
theorem step12_clone {lo hi : Int} (p : Nat) (F D : Nat → Prop) (A : Option Addr) (c : Nat) (I : Option Addr) (ci : Nat) (G : Option Addr) (cg : Nat) (L : List (Option Nat)) (x : Rf.S) (a : Act12) (w : World) (h : StIn w p F D A c I ci G cg L x lo hi) (hk : a.kind = 5) (hh : hi + 64 - lo ≤ 8000000) {y : Rf.S} (hy : x = y) :
    Calls Try.prog 24 #[.pointer (some ⟨p, 0, none⟩), rfV x A c I ci G cg, act12V a] w (StepPost w p F D y) := by
  subst hy
  have HI := Lib.hid h
  have b1 := h.ok.lo0
  have b2 := h.ok.lor
  have b3 := h.ok.rhi
  have b4 := h.ok.hl
  have b5 := h.ok.hm
  have b6 := h.ok.sum
  have b7 := h.ok.win
  have b8 := h.ok.rh
  have HB := Lib.hid (StBox.new w A c I ci G cg x a)
  have F1 : Hid (Fresh w (((w.alloc (.cells #[.int .i64 x.R, .int .i64 x.H, .int .i64 x.MR, .int .i64 x.window, .slice A x.buf.length c, .slice I x.inbox.length ci, .slice G x.gaps.length cg] 52)).alloc
    (.cells #[.int .i64 a.kind, .int .i64 a.n, .bool a.raw, .string a.m] 57)).alloc (.cells #[.int .i64 0, .int .i64 0, .int .i64 0, .int .i64 0, .slice none 0 0, .slice none 0 0, .slice none 0 0] 52))) := (((Touch.refl _ _).alloc _).alloc _).alloc _
  have hil := h.ok.ilen
  have hbl := h.ok.blen
  have hgl := h.ok.glen
  have HCL : Hid (∀ W, Fresh w W → Calls Try.prog 45 #[.pointer (some ⟨p, 0, none⟩)] W fun e w' => ∃ p' F', e = .returned (.pointer (some ⟨p', 0, none⟩)) ∧ RecvAt w' p' F' (Rf.prog x) ∧ Fresh W w' ∧ ∀ k, F' k → W.heap.size ≤ k) := fun W hf =>
    rclone_any p F (Rf.prog x) W (h.recv.old hf) (by show x.inbox.length ≤ 1000000; omega) (by show (Rf.pg x.gaps).length ≤ 1000000; simp [Rf.pg]; omega)
  have HNE := Lib.hid (near_any a x.R (by omega))
  have hnb := near_bd a x.R
  generalize near12 a x.R = n at *
  have HSO := Lib.hid (sof_any n)
  have hnm : n % 16777216 = n := by omega
  rw [hnm] at HSO
  obtain ⟨x2, hx2⟩ : ∃ x2, x2 = (Rf.data x n { data := #[111, 116, 104, 101, 114] }).1 := ⟨_, rfl⟩
  have hd := h.ok.data n { data := #[111, 116, 104, 101, 114] } hh
  rw [hnm, ← hx2] at hd
  obtain ⟨hd1, ok2⟩ := hd
  have hil2 := ok2.ilen
  obtain ⟨j, hj⟩ : ∃ j : Nat, max 0 (min 2 (x2.inbox.length : Int)) = (j : Int) := ⟨(max 0 (min 2 (x2.inbox.length : Int))).toNat, by omega⟩
  obtain ⟨x3, hx3⟩ : ∃ x3 : Rf.S, x3 = { x2 with inbox := x2.inbox.drop j } := ⟨_, rfl⟩
  have ok3 : Rf.Ok x3 lo (hi + 64) := by rw [hx3]; exact ok2.take j
  have HDT : Hid (∀ W q F', RecvAt W q F' (Rf.prog x) → Calls Try.prog 13 #[.pointer (some ⟨q, 0, none⟩), .int .u32 n, .string { data := #[111, 116, 104, 101, 114] }] W fun e w' => ∃ F2 v, e = .returned v ∧ RecvAt w' q F2 (Rf.prog x2) ∧ Touch F' W w' ∧ ∀ k, F2 k → F' k ∨ W.heap.size ≤ k) := fun W q F' hr => by
    have := rdata_any q F' (Rf.prog x) n { data := #[111, 116, 104, 101, 114] } W hr (by show x.inbox.length + (Rf.pm x.buf).length + (Rf.pg x.gaps).length ≤ 100000; simp [Rf.pm, Rf.pg]; omega)
    rw [hd1] at this
    refine this.mono ?_
    rintro e w' ⟨F2, A', c', rfl, r1, r2, r3, r4, r5⟩
    exact ⟨F2, _, rfl, r2, r3, r4⟩
  have HTK : Hid (∀ W q F', RecvAt W q F' (Rf.prog x2) → Calls Try.prog 21 #[.pointer (some ⟨q, 0, none⟩), .int .i64 2] W fun e w' => ∃ F2 v, e = .returned v ∧ RecvAt w' q F2 (Rf.prog x3) ∧ Touch F' W w' ∧ ∀ k, F2 k → F' k ∨ W.heap.size ≤ k) := fun W q F' hr => by
    refine (rtake_any q F' (Rf.prog x2) 2 W hr (by show x2.inbox.length ≤ 100000; omega) j hj).mono ?_
    rintro e w' ⟨F2, A', c', rfl, r1, r2, r3, r4, r5⟩
    rw [hx3]
    exact ⟨F2, _, rfl, r2, r3, r4⟩
  have HST : Hid (∀ W q F', RecvAt W q F' (Rf.prog x3) → Calls Try.prog 22 #[.pointer (some ⟨q, 0, none⟩)] W fun e w' => ∃ v, e = .returned v ∧ Touch F' W w') := fun W q F' hr => by
    have k1 := ok3.hm
    have k2 := ok3.sum
    have k3 := ok3.win
    have k4 := ok3.rh
    refine (rstat_any q F' (Rf.prog x3) W hr (by rw [ok3.dist]; omega) (by show 0 ≤ x3.window ∧ x3.window ≤ 64; omega) (by show x3.inbox.length ≤ 1000000; have := ok3.ilen; omega)).mono ?_
    rintro e w' ⟨B, d, S, rfl, r1, r2, r3, r4, r5⟩
    exact ⟨_, rfl, r2⟩
  have HIS : Hid (∀ W q F', RecvAt W q F' (Rf.prog x) → Calls Try.prog 25 #[.pointer (some ⟨q, 0, none⟩), .agg #[.int .i64 x.R, .int .i64 x.H, .int .i64 x.MR, .int .i64 x.window, .slice A x.buf.length c, .slice I x.inbox.length ci, .slice G x.gaps.length cg]] W fun e w' => e = .returned (.bool true) ∧ Fresh W w') := fun W q F' hr => is12_any q F' A c I ci G cg x W hr
  clear h hh hd1 ok2 ok3 hj hx3 hx2 hil2 hnm hil hbl hgl
  unfold rfV
  unfold act12V at HNE ⊢
  rw [hk] at HB F1 HNE ⊢
  have hk0 : Hid (a.kind = 5) := hk
  clear hk
  go_enter Try.func24, Try.ntmps24
  go_upto_region 24 with (fail)
  generalize (World.alloc (World.alloc (World.alloc w _) _) _) = w1 at HB F1 ⊢
  go_wp2_with fail
  refine (HCL.out w1 F1.out).mono ?_
  rintro e w2 ⟨q, F2, rfl, r2, f2, b2'⟩
  have hres : w.heap.size + 1 + 1 < w1.heap.size := HB.out.res.lt
  have HB2 := Lib.hid (HB.out.touch f2 (fun _ h => h.elim))
  have R2 := Lib.hid r2
  have T2 := Lib.hid (F1.out.trans f2 (fun _ _ h => h))
  have G2 : Hid (∀ k, F2 k → w.heap.size + 1 + 1 < k) := fun k hk => by have := b2' k hk; omega
  clear r2 f2 b2' HB F1 HCL hres
  obtain ⟨c0, c1, c2, c3, c4, c5, c6⟩ := HB2.out.cells
  simp only
  go_wp2_with fail
  refine (HIS.out w2 q F2 R2.out).mono ?_
  rintro e w3 ⟨rfl, f3⟩
  have HB3 := Lib.hid (HB2.out.touch f3 (fun _ h => h.elim))
  have R3 := Lib.hid (R2.out.old f3)
  have T3 := Lib.hid (T2.out.trans f3 (fun _ _ h => h))
  clear f3 HB2 R2 T2 HIS c0 c1 c2 c3 c4 c5 c6
  obtain ⟨c0, c1, c2, c3, c4, c5, c6⟩ := HB3.out.cells
  obtain ⟨a0, a1, a2, a3⟩ := HB3.out.acts
  rw [hk0.out] at a0
  simp only
  go_wp2_with fail
  refine (HNE.out w3).mono ?_
  rintro e w4 ⟨rfl, f4⟩
  have HB4 := Lib.hid (HB3.out.touch f4 (fun _ h => h.elim))
  have R4 := Lib.hid (R3.out.old f4)
  have T4 := Lib.hid (T3.out.trans f4 (fun _ _ h => h))
  clear f4 HB3 R3 T3 HNE c0 c1 c2 c3 c4 c5 c6 a0 a1 a2 a3
  simp only
  go_wp2_with fail
  refine (HSO.out w4).mono ?_
  rintro e w5 ⟨rfl, rfl⟩
  simp only
  go_wp2_with fail
  refine (HDT.out w5 q F2 R4.out).mono ?_
  rintro e w6 ⟨F6, v6, rfl, r6, t6, g6⟩
  have hsz : Hid (w.heap.size + 1 + 1 < w5.heap.size) := HB4.out.res.lt
  have HB6 := Lib.hid (HB4.out.off t6 G2.out)
  have R6 := Lib.hid r6
  have T6 : Hid (Touch (fun k => w.heap.size + 1 + 1 < k) w w6) := (T4.out.mono (fun _ _ h => h.elim)).trans t6 (fun k _ hk => G2.out k hk)
  have G6 : Hid (∀ k, F6 k → w.heap.size + 1 + 1 < k) := fun k hk => by
    rcases g6 k hk with e | e
    · exact G2.out k e
    · have := hsz.out; omega
  clear r6 t6 g6 HB4 R4 T4 HDT HSO G2 hsz
  simp only
  go_wp2_with fail
  refine (HTK.out w6 q F6 R6.out).mono ?_
  rintro e w7 ⟨F7, v7, rfl, r7, t7, g7⟩
  have hsz : Hid (w.heap.size + 1 + 1 < w6.heap.size) := HB6.out.res.lt
  have HB7 := Lib.hid (HB6.out.off t7 G6.out)
  have R7 := Lib.hid r7
  have T7 : Hid (Touch (fun k => w.heap.size + 1 + 1 < k) w w7) := T6.out.trans t7 (fun k _ hk => G6.out k hk)
  have G7 : Hid (∀ k, F7 k → w.heap.size + 1 + 1 < k) := fun k hk => by
    rcases g7 k hk with e | e
    · exact G6.out k e
    · have := hsz.out; omega
  clear r7 t7 g7 HB6 R6 T6 HTK G6 hsz
  simp only
  go_wp2_with fail
  refine (HST.out w7 q F7 R7.out).mono ?_
  rintro e w8 ⟨v8, rfl, t8⟩
  have HB8 := Lib.hid (HB7.out.off t8 G7.out)
  have T8 : Hid (Touch (fun k => w.heap.size + 1 + 1 < k) w w8) := T7.out.trans t8 (fun k _ hk => G7.out k hk)
  clear t8 HB7 R7 T7 HST G7
  obtain ⟨c0, c1, c2, c3, c4, c5, c6⟩ := HB8.out.cells
  obtain ⟨z0, z1, z2, z3, z4, z5, z6⟩ := HB8.out.zeros
  have fz := fun i => HB8.out.res.frozen i
  have HX : Hid (∀ W, Touch (· = w.heap.size + 1 + 1) w8 W → StepPost w p F D x (.returned (.tuple #[.agg #[.int .i64 x.R, .int .i64 x.H, .int .i64 x.MR, .int .i64 x.window, .slice A x.buf.length c, .slice I x.inbox.length ci, .slice G x.gaps.length cg], .bool true])) W) := fun W hT => by
    have hTW : Fresh w W := (T8.out.trans hT (T := (· = w.heap.size + 1 + 1)) (fun k hk e => by omega)).mono (fun k hk h => by omega)
    exact HI.out.same (hTW.mono (fun _ _ h => h.elim)) (HI.out.recv.old hTW) ⟨rfl, rfl, rfl⟩
  clear HB8 T8 HI
  simp only
  go_wp2
  refine bodyPost_ret (v := _) (by simp [results, Try.results24, go_sem, z0, z1, z2, z3, z4, z5, z6]) rfl (HX.out _ (Touch.st7 (S := (· = w.heap.size + 1 + 1)) (Touch.refl _ w8) rfl))
end Go.Proofs.Ytpjmgdoekeknjaa
