/-
  polliwoglaw12.Step: Data.
-/
import Derived.Test.YtpjmgdoekeknjaaStp12s
namespace Go.Proofs.Ytpjmgdoekeknjaa
open Go.RowKit

set_option maxHeartbeats 8000000 in
set_option maxRecDepth 4000 in
theorem step12_data {lo hi : Int} (p : Nat) (F D : Nat → Prop) (A : Option Addr) (c : Nat) (I : Option Addr) (ci : Nat) (G : Option Addr) (cg : Nat) (L : List (Option Nat)) (x : Rf.S) (a : Act12) (w : World) (h : StIn w p F D A c I ci G cg L x lo hi) (k1 : ¬ a.kind = 1) (k2 : ¬ a.kind = 2) (k3 : ¬ a.kind = 3) (k4 : ¬ a.kind = 4) (k5 : ¬ a.kind = 5)
    (hh : hi + 64 - lo ≤ 8000000) (ham : a.m.size ≤ maxLen) {y : Rf.S} (hy : (Rf.data x (near12 a x.R) (cut5 a.m)).1 = y) :
    Calls Try.prog 24 #[.pointer (some ⟨p, 0, none⟩), rfV x A c I ci G cg, act12V a] w (StepPost w p F D y) := by
  have HI := Lib.hid h
  have b1 := h.ok.lo0
  have b2 := h.ok.lor
  have b3 := h.ok.rhi
  have b4 := h.ok.hl
  have b5 := h.ok.hm
  have b6 := h.ok.sum
  have b7 := h.ok.win
  have b8 := h.ok.rh
  have HB := Lib.hid (StBox.new w A c I ci G cg x a)
  have F1 : Hid (Fresh w (((w.alloc (.cells #[.int .i64 x.R, .int .i64 x.H, .int .i64 x.MR, .int .i64 x.window, .slice A x.buf.length c, .slice I x.inbox.length ci, .slice G x.gaps.length cg] 52)).alloc
    (.cells #[.int .i64 a.kind, .int .i64 a.n, .bool a.raw, .string a.m] 57)).alloc (.cells #[.int .i64 0, .int .i64 0, .int .i64 0, .int .i64 0, .slice none 0 0, .slice none 0 0, .slice none 0 0] 52))) := (((Touch.refl _ _).alloc _).alloc _).alloc _
  have hil := h.ok.ilen
  have hbl := h.ok.blen
  have hgl := h.ok.glen
  have HNE := Lib.hid (near_any a x.R (by omega))
  have HCU := Lib.hid (fun W => cut5_any a.m W ham)
  have hnb := near_bd a x.R
  generalize near12 a x.R = n at *
  generalize cut5 a.m = m at *
  have HSO := Lib.hid (sof_any n)
  have hnm : n % 16777216 = n := by omega
  rw [hnm] at HSO
  obtain ⟨O, hO⟩ : ∃ O, (Rf.data x n m).2 = O := ⟨_, rfl⟩
  have hd := h.ok.data n m hh
  rw [hnm, hy, hO] at hd
  obtain ⟨hd1, ok2⟩ := hd
  have HRD : Hid (∀ W, Fresh w W → Calls Try.prog 28 #[.agg #[.int .i64 x.R, .int .i64 x.H, .int .i64 x.MR, .int .i64 x.window, .slice A x.buf.length c, .slice I x.inbox.length ci, .slice G x.gaps.length cg], .int .i64 n, .string m] W (RfDataPost W D y O)) := fun W hf => by
    have := rfdata_any D A c I ci G cg L x n m W (h.ins.old hf) h.dom h.ok (by omega)
    rw [hy, hO] at this
    exact this
  have HDT : Hid (∀ W, Fresh w W → Calls Try.prog 13 #[.pointer (some ⟨p, 0, none⟩), .int .u32 n, .string m] W (RecvOut W p F (Rf.prog y) O)) := fun W hf => by
    have := rdata_any p F (Rf.prog x) n m W (h.recv.old hf) (by show x.inbox.length + (Rf.pm x.buf).length + (Rf.pg x.gaps).length ≤ 100000; simp [Rf.pm, Rf.pg]; omega)
    rw [hd1] at this
    exact this
  clear h hh hd1 hnm hil hbl hgl hy hO
  unfold rfV
  unfold act12V at HNE ⊢
  have e1 : (a.kind == 1) = false := by simpa using k1
  have e2 : (a.kind == 2) = false := by simpa using k2
  have e3 : (a.kind == 3) = false := by simpa using k3
  have e4 : (a.kind == 4) = false := by simpa using k4
  have e5 : (a.kind == 5) = false := by simpa using k5
  clear k1 k2 k3 k4 k5
  go_enter Try.func24, Try.ntmps24
  go_upto_region 31 with (fail)
  generalize (World.alloc (World.alloc (World.alloc w _) _) _) = w1 at HB F1 ⊢
  clear e1 e2 e3 e4 e5
  have KE : Hid (∀ W, Fresh w1 W → W.cell? ⟨w.heap.size + 1, 0, none⟩ = some (.int .i64 a.kind) ∧ W.cell? ⟨w.heap.size + 1, 1, none⟩ = some (.int .i64 a.n) ∧ W.cell? ⟨w.heap.size + 1, 2, none⟩ = some (.bool a.raw) ∧ W.cell? ⟨w.heap.size + 1, 3, none⟩ = some (.string a.m) ∧ W.cell? ⟨w.heap.size, 0, none⟩ = some (.int .i64 x.R)) := fun W ht => by
    have hb := HB.out.touch ht (fun _ h => h.elim)
    exact ⟨hb.act.cell 0, hb.act.cell 1, hb.act.cell 2, hb.act.cell 3, hb.rf.cell 0⟩
  have g1 : Fresh w1 w1.drew := (Touch.refl _ _).drew
  go_region_held3 (fun wx => wx.cell? ⟨w.heap.size + 1, 0, none⟩ = some (.int .i64 a.kind) ∧ wx.cell? ⟨w.heap.size + 1, 1, none⟩ = some (.int .i64 a.n) ∧ wx.cell? ⟨w.heap.size + 1, 2, none⟩ = some (.bool a.raw) ∧ wx.cell? ⟨w.heap.size + 1, 3, none⟩ = some (.string a.m) ∧ wx.cell? ⟨w.heap.size, 0, none⟩ = some (.int .i64 x.R))
    (first
      | with_reducible exact KE.out _ (by with_reducible assumption)
      | with_reducible assumption)
    (first
      | (go_simp; go_at_call 26; with_reducible refine (HNE.out _).mono ?_; rintro e' w2 ⟨rfl, f2⟩; have g2 : Fresh w1 w2 := g1.trans f2 (fun _ _ h => h))
      | (go_simp; go_at_call 19; with_reducible refine (HCU.out _).mono ?_; rintro e' w2 ⟨rfl, h2'⟩; subst h2'))
  all_goals
    have HB2 := Lib.hid (HB.out.touch g2 (fun _ h => h.elim))
    have F2 := Lib.hid (F1.out.trans g2 (fun _ _ h => h))
    clear g1 g2 f2 KE HB F1 HNE HCU
    obtain ⟨c0, c1, c2, c3, c4, c5, c6⟩ := HB2.out.cells
    go_wp2_with fail
    refine (HRD.out w2 F2.out).mono ?_
    rintro e w3 ⟨A3, c3', I3, ci3, G3, cg3, L3, B3, d3, rfl, i3, dm3, f3, so3, sb3⟩
    have HB3 := Lib.hid (HB2.out.touch f3 (fun _ h => h.elim))
    have F3 := Lib.hid (F2.out.trans f3 (fun _ _ h => h))
    have I3' := Lib.hid i3
    have DM3 := Lib.hid dm3
    have SO3 := Lib.hid so3
    have hsz2 : Hid (w.heap.size + 1 + 1 < w2.heap.size ∧ w2.heap.size ≤ w3.heap.size ∧ ∀ ad, B3 = some ad → w2.heap.size ≤ ad.block) := ⟨HB2.out.res.lt, f3.size, sb3⟩
    clear i3 dm3 f3 so3 sb3 HB2 F2 HRD c0 c1 c2 c3 c4 c5 c6
    unfold rfV
    simp only
    go_upto_region 33 with (fail)
    have B4 := Lib.hid (Blk.new w3 52 (rfCells y A3 c3' I3 ci3 G3 cg3))
    have ft : Fresh w3 (w3.alloc (.cells (rfCells y A3 c3' I3 ci3 G3 cg3).toArray 52)) := (Touch.refl _ _).alloc _
    have HB4 := Lib.hid (HB3.out.touch ft (fun _ h => h.elim))
    have F4 := Lib.hid (F3.out.alloc (.cells (rfCells y A3 c3' I3 ci3 G3 cg3).toArray 52))
    have S4 := Lib.hid (SO3.out.alloc (.cells (rfCells y A3 c3' I3 ci3 G3 cg3).toArray 52))
    have I4 := Lib.hid (I3'.out.old ft)
    have hsz4 : Hid ((w3.alloc (.cells (rfCells y A3 c3' I3 ci3 G3 cg3).toArray 52)).heap.size = w3.heap.size + 1) := by simp [Hid]
    clear HB3 F3 SO3 I3' ft
    generalize hw4 : World.alloc w3 _ = w4
    have B4' : Hid (Blk w4 w3.heap.size 52 (rfCells y A3 c3' I3 ci3 G3 cg3)) := hw4 ▸ B4.out
    have HB4' : Hid (StBox w w4 A c I ci G cg x a) := hw4 ▸ HB4.out
    have F4' : Hid (Fresh w w4) := hw4 ▸ F4.out
    have S4' : Hid (Sl strE w4 B3 d3 O) := hw4 ▸ S4.out
    have I4' : Hid (RfIn w4 A3 c3' I3 ci3 G3 cg3 L3 y) := hw4 ▸ I4.out
    have hsz4' : Hid (w4.heap.size = w3.heap.size + 1) := hw4 ▸ hsz4.out
    clear B4 HB4 F4 S4 I4 hsz4 hw4
    have hF : Hid (∀ k, F k → k < w.heap.size) := HI.out.recv.lim
    obtain ⟨b2, hb2⟩ : ∃ b2, b2 = w.heap.size + 1 + 1 := ⟨_, rfl⟩
    obtain ⟨b0, hb0⟩ : ∃ b0, b0 = w3.heap.size := ⟨_, rfl⟩
    have Z4 := Lib.hid HB4'.out.res
    rw [← hb2] at Z4 ⊢
    rw [← hb0] at B4' ⊢
    have HBB : Hid (b2 = w.heap.size + 1 + 1 ∧ b0 = w3.heap.size) := ⟨hb2, hb0⟩
    clear hb2 hb0 HB4'
    -- T: the receiver's parts, and the place of the result
    have KT : Hid (∀ W, Touch (fun k => F k ∨ k = b2) w4 W → W.cell? ⟨b0, 0, none⟩ = some (.int .i64 y.R) ∧ W.cell? ⟨b0, 1, none⟩ = some (.int .i64 y.H) ∧ W.cell? ⟨b0, 2, none⟩ = some (.int .i64 y.MR) ∧ W.cell? ⟨b0, 3, none⟩ = some (.int .i64 y.window) ∧ W.cell? ⟨b0, 4, none⟩ = some (.slice A3 y.buf.length c3') ∧ W.cell? ⟨b0, 5, none⟩ = some (.slice I3 y.inbox.length ci3) ∧ W.cell? ⟨b0, 6, none⟩ = some (.slice G3 y.gaps.length cg3)) := fun W ht => by
      have hb := ht.blk B4'.out (fun e => by
        have h1 := HBB.out
        have h2 := hsz2.out
        rcases e with e | e
        · have := hF.out _ e; omega
        · omega)
      exact ⟨hb.cell 0, hb.cell 1, hb.cell 2, hb.cell 3, hb.cell 4, hb.cell 5, hb.cell 6⟩
    have KE : Hid (∀ W, Touch F w4 W → W.cell? ⟨b0, 0, none⟩ = some (.int .i64 y.R) ∧ W.cell? ⟨b0, 1, none⟩ = some (.int .i64 y.H) ∧ W.cell? ⟨b0, 2, none⟩ = some (.int .i64 y.MR) ∧ W.cell? ⟨b0, 3, none⟩ = some (.int .i64 y.window) ∧ W.cell? ⟨b0, 4, none⟩ = some (.slice A3 y.buf.length c3') ∧ W.cell? ⟨b0, 5, none⟩ = some (.slice I3 y.inbox.length ci3) ∧ W.cell? ⟨b0, 6, none⟩ = some (.slice G3 y.gaps.length cg3)) := fun W ht => KT.out W (ht.mono (fun _ _ h => .inl h))
    have ZE : Hid (∀ W, Touch F w4 W → (W.cell? ⟨b2, 0, none⟩ = some (.int .i64 0) ∧ W.cell? ⟨b2, 1, none⟩ = some (.int .i64 0) ∧ W.cell? ⟨b2, 2, none⟩ = some (.int .i64 0) ∧ W.cell? ⟨b2, 3, none⟩ = some (.int .i64 0) ∧ W.cell? ⟨b2, 4, none⟩ = some (.slice none 0 0) ∧ W.cell? ⟨b2, 5, none⟩ = some (.slice none 0 0) ∧ W.cell? ⟨b2, 6, none⟩ = some (.slice none 0 0)) ∧ ∀ i, W.frozen? ⟨b2, i, none⟩ = false) := fun W ht => by
      have hb := ht.blk Z4.out (fun e => by have := hF.out _ e; have := HBB.out; omega)
      exact ⟨⟨hb.cell 0, hb.cell 1, hb.cell 2, hb.cell 3, hb.cell 4, hb.cell 5, hb.cell 6⟩, fun i => hb.frozen i⟩
    have HSA : Hid (∀ W A8 c8, Touch F w4 W → Sl strE W A8 c8 O → Calls Try.prog 20 #[.slice A8 O.length c8, .slice B3 O.length d3] W fun e w' => e = .returned (.bool true) ∧ Fresh W w') := fun W A8 c8 ht hs => by
      refine (sames_any A8 B3 c8 d3 O O W hs.rd (S4'.out.touch ht (fun ad e hf => by have := hF.out _ hf; have := hsz2.out.2.2 ad e; have := hsz2.out.1; omega)).rd).mono ?_
      rintro e w' ⟨rfl, f⟩
      exact ⟨by simp, f⟩
    have HD4 : Hid (∀ W, Fresh w4 W → Calls Try.prog 13 #[.pointer (some ⟨p, 0, none⟩), .int .u32 n, .string m] W fun e w' => ∃ F6 A6 c6, e = .returned (.slice A6 O.length c6) ∧ Sl strE w' A6 c6 O ∧ RecvAt w' p F6 (Rf.prog y) ∧ Touch F W w' ∧ (∀ k, F6 k → F k ∨ W.heap.size ≤ k) ∧ ∀ ad, A6 = some ad → W.heap.size ≤ ad.block ∧ ¬ F6 ad.block) := fun W hf => HDT.out W (F4'.out.trans hf (fun _ _ h => h))
    have HX : Hid (∀ (w5 w6 W : World) F6, Fresh w4 w5 → RecvAt w6 p F6 (Rf.prog y) → Touch F w5 w6 → (∀ k, F6 k → F k ∨ w5.heap.size ≤ k) → Touch (· = b2) w6 W → StepPost w p F D y (.returned (.tuple #[.agg #[.int .i64 y.R, .int .i64 y.H, .int .i64 y.MR, .int .i64 y.window, .slice A3 y.buf.length c3', .slice I3 y.inbox.length ci3, .slice G3 y.gaps.length cg3], .bool true])) W) := fun w5 w6 W F6 f5 r6 t6 g6 hT => by
      have hbb := HBB.out
      have hs2 := hsz2.out
      have hs4 := hsz4'.out
      have hs5 := f5.size
      have t46 : Touch F w4 w6 := (f5.mono (fun _ _ h => h.elim)).trans t6 (fun _ _ h => h)
      have hTW : Touch F w W := (((F4'.out.mono (fun _ _ h => h.elim)).trans t46 (T := F) (fun _ _ h => h)).trans hT (fun k hk e => by omega))
      have ra : RfAt w5 (rfV y A3 c3' I3 ci3 G3 cg3) y (fun k => (D k ∨ w2.heap.size ≤ k) ∧ k < w5.heap.size) := RfIn.at_ (I4'.out.old f5) DM3.out (fun k h1 h2 => ⟨h1, h2⟩) (fun k h => h.2)
      have rb : RfAt W (rfV y A3 c3' I3 ci3 G3 cg3) y (fun k => (D k ∨ w2.heap.size ≤ k) ∧ k < w5.heap.size) := by
        obtain ⟨A', c', I', ci', G', cg', L', e, h1, h2, h3⟩ := ra.touch t6 (fun k hk hf => by
          have := hF.out k hf
          rcases hk.1 with h1 | h1
          · exact HI.out.off k hf h1
          · omega)
        have hz := (F4'.out.trans f5 (fun _ _ h => h)).size
        refine ⟨A', c', I', ci', G', cg', L', e, h1.far (t6.blk (f5.blk Z4.out (fun h => h)) (fun e => by have := hF.out _ e; omega)) hT, h2, fun k hk => Nat.lt_of_lt_of_le (h3 k hk) hT.size⟩
      refine ⟨_, F6, _, rfl, r6.touch hT (fun k hk e => ?_), rb, fun k hk hd => ?_, hTW, fun k hk => ?_, fun k hk => ?_⟩
      · rcases g6 k hk with h1 | h1
        · have := hF.out k h1; omega
        · omega
      · rcases g6 k hk with h1 | h1
        · have := hF.out k h1
          rcases hd.1 with h2 | h2
          · exact HI.out.off k h1 h2
          · omega
        · have := hd.2; omega
      · rcases g6 k hk with h1 | h1
        · exact .inl h1
        · exact .inr (by omega)
      · rcases hk.1 with h2 | h2
        · exact .inl h2
        · exact .inr (by omega)
    clear B4' Z4 S4' I4' F4' DM3 HI HDT hF HBB hsz2 hsz4'
    have g4 : Fresh w4 w4.drew := (Touch.refl _ _).drew
    have t4 : Touch F w4 w4.drew := (Touch.refl _ _).drew
    go_region_held3 (fun wx => wx.cell? ⟨b0, 0, none⟩ = some (.int .i64 y.R) ∧ wx.cell? ⟨b0, 1, none⟩ = some (.int .i64 y.H) ∧ wx.cell? ⟨b0, 2, none⟩ = some (.int .i64 y.MR) ∧ wx.cell? ⟨b0, 3, none⟩ = some (.int .i64 y.window) ∧ wx.cell? ⟨b0, 4, none⟩ = some (.slice A3 y.buf.length c3') ∧ wx.cell? ⟨b0, 5, none⟩ = some (.slice I3 y.inbox.length ci3) ∧ wx.cell? ⟨b0, 6, none⟩ = some (.slice G3 y.gaps.length cg3))
      (first
        | with_reducible exact KE.out _ (by with_reducible assumption)
        | exact KT.out _ (Touch.st7 (S := fun k => F k ∨ k = b2) (t8.mono (fun _ _ h => .inl h)) (.inr rfl))
        | with_reducible assumption)
      (first
        | (go_simp; go_at_call 12; with_reducible refine (HSO.out _).mono ?_; rintro e' w5 ⟨rfl, h5⟩; subst h5)
        | (go_simp; go_at_call 13; refine (HD4.out _ (by assumption)).mono ?_; rintro e' w6 ⟨F6, A6, c6, rfl, s6, r6, t6, g6, n6⟩; have t46 : Touch F w4 w6 := t4.trans t6 (fun _ _ h => h); have hx6 := fun W => HX.out _ w6 W F6 g4 r6 t6 g6; clear r6 t6 g6 n6)
        | (go_simp; go_at_call 20; with_reducible refine (HSA.out _ _ _ (by with_reducible assumption) (by with_reducible assumption)).mono ?_; rintro e' w8 ⟨rfl, f8⟩; have t8 : Touch F w4 w8 := t46.trans f8 (fun _ _ h => h.elim); obtain ⟨⟨z0, z1, z2, z3, z4, z5, z6⟩, fz⟩ := ZE.out w8 t8))
    all_goals
      have HX6 := Lib.hid hx6
      have F8 := Lib.hid f8
      clear hx6 f8 t8 t46 t4 g4 KE KT ZE HSA HD4 HX s6 HSO
      go_wp2
      refine bodyPost_ret (v := _) (by simp [results, Try.results24, go_sem, z0, z1, z2, z3, z4, z5, z6]) rfl (HX6.out _ (Touch.st7 (S := (· = b2)) (F8.out.mono (fun _ _ h => h.elim)) rfl))

set_option maxHeartbeats 1000000 in
/-- A call on both: it is as it should be. -/
theorem step12_any {lo hi : Int} (p : Nat) (F D : Nat → Prop) (A : Option Addr) (c : Nat) (I : Option Addr) (ci : Nat) (G : Option Addr) (cg : Nat) (L : List (Option Nat)) (x : Rf.S) (a : Act12) (w : World) (h : StIn w p F D A c I ci G cg L x lo hi) (hh : hi + 64 - lo ≤ 8000000) (ham : a.m.size ≤ maxLen) :
    Calls Try.prog 24 #[.pointer (some ⟨p, 0, none⟩), rfV x A c I ci G cg, act12V a] w (StepPost w p F D (Rf.step x a)) := by
  by_cases k1 : a.kind = 1
  · exact step12_poll p F D A c I ci G cg L x a w h k1 (by unfold Rf.step; rw [if_pos k1])
  · by_cases k2 : a.kind = 2
    · exact step12_stat p F D A c I ci G cg L x a w h k2 (by unfold Rf.step; rw [if_neg k1, if_pos k2])
    · by_cases k3 : a.kind = 3
      · exact step12_gap p F D A c I ci G cg L x a w h k3 (by unfold Rf.step; rw [if_neg k1, if_neg k2, if_pos k3])
      · by_cases k4 : a.kind = 4
        · exact step12_take p F D A c I ci G cg L x a w h k4 (by unfold Rf.step; rw [if_neg k1, if_neg k2, if_neg k3, if_pos k4])
        · by_cases k5 : a.kind = 5
          · exact step12_clone p F D A c I ci G cg L x a w h k5 hh (by unfold Rf.step; rw [if_neg k1, if_neg k2, if_neg k3, if_neg k4, if_pos k5])
          · exact step12_data p F D A c I ci G cg L x a w h k1 k2 k3 k4 k5 hh ham (by unfold Rf.step; rw [if_neg k1, if_neg k2, if_neg k3, if_neg k4, if_neg k5])
end Go.Proofs.Ytpjmgdoekeknjaa
