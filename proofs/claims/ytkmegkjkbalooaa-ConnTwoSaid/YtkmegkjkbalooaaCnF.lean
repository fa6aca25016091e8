/-
  conn: what an act does with a unit, and with a request.
-/
import Derived.Test.YtkmegkjkbalooaaCnE
namespace Go.Proofs.Ytkmegkjkbalooaa
open Go.RowKit

set_option maxHeartbeats 2000000 in
theorem handle_any {K : Nat → Prop} {n : Nat} {w : World} {a c : Nat} {x : Cn.SR} (h : InAct K n w a c x) (hn : n ≤ 80) (p : Cn.Pd) :
    Calls Try.prog 29 #[.pointer (some ⟨a, 0, none⟩), pduV p] w fun e w' => e = .returned (.tuple #[]) ∧ InAct K (n + 7) w' a c (Cn.handle x p) ∧ Touch (OfAct K) w w' := by
  unfold pduV
  have HF : Hid (Fresh w (w.alloc (.cells #[.int .i64 p.kind, .int .i64 p.sq, .int .u32 p.n, .int .u32 p.ps, .int .u32 p.mr, .slice p.lA p.ln p.lc, .bool p.self, .string p.data] 54))) := (Touch.refl _ w).alloc _
  have HB := Lib.hid (Blk.boxed w p)
  have HI1 := Lib.hid (h.keep HF.out)
  have HG : Hid (Kept K w (w.alloc (.cells #[.int .i64 p.kind, .int .i64 p.sq, .int .u32 p.n, .int .u32 p.ps, .int .u32 p.mr, .slice p.lA p.ln p.lc, .bool p.self, .string p.data] 54)) w.heap.size) := .inr ⟨Nat.le_refl _, by simp⟩
  have HL : Hid (∀ k, K k → Kept K w (w.alloc (.cells #[.int .i64 p.kind, .int .i64 p.sq, .int .u32 p.n, .int .u32 p.ps, .int .u32 p.mr, .slice p.lA p.ln p.lc, .bool p.self, .string p.data] 54)) k) := fun k e => .inl e
  have HP : Hid (Touch (OfAct K) w (w.alloc (.cells #[.int .i64 p.kind, .int .i64 p.sq, .int .u32 p.n, .int .u32 p.ps, .int .u32 p.mr, .slice p.lA p.ln p.lc, .bool p.self, .string p.data] 54))) := HF.out.mono (fun _ _ e => e.elim)
  obtain ⟨st, hst⟩ : ∃ st, x.1.state = st := ⟨_, rfl⟩
  have HS := Lib.hid hst
  obtain ⟨sq, hsq⟩ : ∃ sq, x.1.sq = sq := ⟨_, rfl⟩
  have HSQ := Lib.hid hsq
  obtain ⟨peer, hpe⟩ : ∃ peer, x.1.peer = peer := ⟨_, rfl⟩
  have HPE := Lib.hid hpe
  clear h hst hsq hpe
  go_enter Try.func29, Try.ntmps29
  go_upto_region 1 with (fail)
  generalize (w.alloc (.cells #[.int .i64 p.kind, .int .i64 p.sq, .int .u32 p.n, .int .u32 p.ps, .int .u32 p.mr, .slice p.lA p.ln p.lc, .bool p.self, .string p.data] 54)) = w1 at *
  generalize Kept K w w1 = K1 at *
  generalize w.heap.size = g at *
  have HT1 : Hid (Touch (OfAct K1) w1 w1) := Touch.refl _ _
  obtain ⟨old, hold⟩ : ∃ old : Bool, (p.sq == peer) = old := ⟨_, rfl⟩
  obtain ⟨fits, hfit⟩ : ∃ fits : Bool, (p.sq == sq) = fits := ⟨_, rfl⟩
  have HO : Hid (if old then p.sq = x.1.peer else ¬ p.sq = x.1.peer) := by unfold Hid; rw [HPE.out, ← hold]; by_cases e : p.sq = peer <;> simp [e]
  have HFI : Hid (if fits then p.sq = x.1.sq else ¬ p.sq = x.1.sq) := by unfold Hid; rw [HSQ.out, ← hfit]; by_cases e : p.sq = sq <;> simp [e]
  have hb := HT1.out.keptB HB.out HG.out
  have d0 : w1.cell? ⟨g, 0, none⟩ = some (.int .i64 p.kind) := hb.cell 0
  have d1 : w1.cell? ⟨g, 1, none⟩ = some (.int .i64 p.sq) := hb.cell 1
  have d2 : w1.cell? ⟨g, 2, none⟩ = some (.int .u32 p.n) := hb.cell 2
  have d3 : w1.cell? ⟨g, 3, none⟩ = some (.int .u32 p.ps) := hb.cell 3
  have d4 : w1.cell? ⟨g, 4, none⟩ = some (.int .u32 p.mr) := hb.cell 4
  have d5 : w1.cell? ⟨g, 5, none⟩ = some (.slice p.lA p.ln p.lc) := hb.cell 5
  have d6 : w1.cell? ⟨g, 6, none⟩ = some (.bool p.self) := hb.cell 6
  have d7 : w1.cell? ⟨g, 7, none⟩ = some (.string p.data) := hb.cell 7
  clear hb
  have hh := HI1.out
  obtain ⟨A1, c1, A2, c2, hh⟩ := hh
  have k0 : w1.cell? ⟨a, 0, none⟩ = some (.pointer (some ⟨c, 0, none⟩)) := hh.blk.cell 0
  have s2 : w1.cell? ⟨c, 2, none⟩ = some (.int .i64 st) := by rw [← HS.out]; exact hh.conn.cell 2
  have s3 : w1.cell? ⟨c, 3, none⟩ = some (.int .i64 sq) := by rw [← HSQ.out]; exact hh.conn.cell 3
  have s4 : w1.cell? ⟨c, 4, none⟩ = some (.int .i64 peer) := by rw [← HPE.out]; exact hh.conn.cell 4
  clear hh
  go_wp2
  go_region
  have HTD : Hid (Touch (OfAct K1) w1 w1.drew) := (Touch.refl _ _).drew
  have HID : Hid (InAct K1 n w1.drew a c x) := HI1.out.old (Touch.refl _ _).drew
  have HI2 := HID
  have HT2 := HTD
  clear d0 d1 d2 d3 d4 d5 d6 d7 k0 s2 s3 s4 HI1 HT1 HID HTD hold hfit
  generalize w1.drew = w2 at *
  have hb := HT2.out.keptB HB.out HG.out
  have d0 : w2.cell? ⟨g, 0, none⟩ = some (.int .i64 p.kind) := hb.cell 0
  have d1 : w2.cell? ⟨g, 1, none⟩ = some (.int .i64 p.sq) := hb.cell 1
  have d2 : w2.cell? ⟨g, 2, none⟩ = some (.int .u32 p.n) := hb.cell 2
  have d3 : w2.cell? ⟨g, 3, none⟩ = some (.int .u32 p.ps) := hb.cell 3
  have d4 : w2.cell? ⟨g, 4, none⟩ = some (.int .u32 p.mr) := hb.cell 4
  have d5 : w2.cell? ⟨g, 5, none⟩ = some (.slice p.lA p.ln p.lc) := hb.cell 5
  have d6 : w2.cell? ⟨g, 6, none⟩ = some (.bool p.self) := hb.cell 6
  have d7 : w2.cell? ⟨g, 7, none⟩ = some (.string p.data) := hb.cell 7
  clear hb
  have hh := HI2.out
  obtain ⟨A1, c1, A2, c2, hh⟩ := hh
  have k0 : w2.cell? ⟨a, 0, none⟩ = some (.pointer (some ⟨c, 0, none⟩)) := hh.blk.cell 0
  clear hh
  by_cases e1 : p.kind = 1
  · have b1 : (p.kind == 1) = true := by simpa using e1
    have E1 := Lib.hid e1
    clear e1
    cases old
    · have HO2 : Hid (¬ p.sq = x.1.peer) := HO.out
      go_wp2_with fail
      refine (newBegin_any HI2.out (by omega) p).mono ?_
      rintro e w3 ⟨rfl, i3, t3⟩
      have HI3 := Lib.hid i3
      have HT3 : Hid (Touch (OfAct K1) _ w3) := HT2.out.trans t3 (fun _ _ e => e)
      clear i3 t3
      clear d0 d1 d2 d3 d4 d5 d6 d7 k0
      have HX : Hid (InAct K (n + 7) w3 a c (Cn.handle x p) ∧ Touch (OfAct K) w w3) := by
        refine ⟨InAct.eq ((HI3.out.less HL.out).wide (by simp; try omega)) ?_, HP.out.trans (HT3.out.loose HL.out) (fun _ _ e => e)⟩
        unfold Cn.handle; rw [if_pos E1.out, if_neg HO2.out]
      clear HI3 HT3
      go_wp2
      first
        | (go_end0; exact ⟨rfl, HX.out⟩)
        | exact bodyPost_ret (results_none rfl _ _ _) rfl ⟨rfl, HX.out⟩
    · have HO2 : Hid (p.sq = x.1.peer) := HO.out
      go_wp2_with fail
      refine (oldBegin_any HI2.out (by omega) p).mono ?_
      rintro e w3 ⟨rfl, i3, t3⟩
      have HI3 := Lib.hid i3
      have HT3 : Hid (Touch (OfAct K1) _ w3) := HT2.out.trans t3 (fun _ _ e => e)
      clear i3 t3
      clear d0 d1 d2 d3 d4 d5 d6 d7 k0
      have HX : Hid (InAct K (n + 7) w3 a c (Cn.handle x p) ∧ Touch (OfAct K) w w3) := by
        refine ⟨InAct.eq ((HI3.out.less HL.out).wide (by simp; try omega)) ?_, HP.out.trans (HT3.out.loose HL.out) (fun _ _ e => e)⟩
        unfold Cn.handle; rw [if_pos E1.out, if_pos HO2.out]
      clear HI3 HT3
      go_wp2
      first
        | (go_end0; exact ⟨rfl, HX.out⟩)
        | exact bodyPost_ret (results_none rfl _ _ _) rfl ⟨rfl, HX.out⟩
  have b1 : (p.kind == 1) = false := by simpa using e1
  by_cases e2 : p.kind = 3
  · have b2 : (p.kind == 3) = true := by simpa using e2
    have E1 := Lib.hid e1
    have E2 := Lib.hid e2
    clear e1 e2
    go_wp2_with fail
    refine (end_any HI2.out (by omega) p).mono ?_
    rintro e w3 ⟨rfl, i3, t3⟩
    have HI3 := Lib.hid i3
    have HT3 : Hid (Touch (OfAct K1) _ w3) := HT2.out.trans t3 (fun _ _ e => e)
    clear i3 t3
    clear d0 d1 d2 d3 d4 d5 d6 d7 k0
    have HX : Hid (InAct K (n + 7) w3 a c (Cn.handle x p) ∧ Touch (OfAct K) w w3) := by
      refine ⟨InAct.eq ((HI3.out.less HL.out).wide (by simp; try omega)) ?_, HP.out.trans (HT3.out.loose HL.out) (fun _ _ e => e)⟩
      unfold Cn.handle; rw [if_neg E1.out, if_pos E2.out]
    clear HI3 HT3
    go_wp2
    first
      | (go_end0; exact ⟨rfl, HX.out⟩)
      | exact bodyPost_ret (results_none rfl _ _ _) rfl ⟨rfl, HX.out⟩
  have b2 : (p.kind == 3) = false := by simpa using e2
  by_cases e3 : p.kind = 5
  · have b3 : (p.kind == 5) = true := by simpa using e3
    have E1 := Lib.hid e1
    have E2 := Lib.hid e2
    have E3 := Lib.hid e3
    clear e1 e2 e3
    cases old
    · have HO2 : Hid (¬ p.sq = x.1.peer) := HO.out
      go_wp2_with fail
      refine (resync_any HI2.out (by omega) p).mono ?_
      rintro e w3 ⟨rfl, i3, t3⟩
      have HI3 := Lib.hid i3
      have HT3 : Hid (Touch (OfAct K1) _ w3) := HT2.out.trans t3 (fun _ _ e => e)
      clear i3 t3
      clear d0 d1 d2 d3 d4 d5 d6 d7 k0
      have HX : Hid (InAct K (n + 7) w3 a c (Cn.handle x p) ∧ Touch (OfAct K) w w3) := by
        refine ⟨InAct.eq ((HI3.out.less HL.out).wide (by simp; try omega)) ?_, HP.out.trans (HT3.out.loose HL.out) (fun _ _ e => e)⟩
        unfold Cn.handle; rw [if_neg E1.out, if_neg E2.out, if_pos E3.out, if_neg HO2.out]
      clear HI3 HT3
      go_wp2
      first
        | (go_end0; exact ⟨rfl, HX.out⟩)
        | exact bodyPost_ret (results_none rfl _ _ _) rfl ⟨rfl, HX.out⟩
    · have HO2 : Hid (p.sq = x.1.peer) := HO.out
      go_wp2_with fail
      refine (back_lit HI2.out p 6 [7, 8, 9, 10] (by simp; omega)).mono ?_
      rintro e w3 ⟨rfl, i3, t3⟩
      have HI3 := Lib.hid i3
      have HT3 : Hid (Touch (OfAct K1) _ w3) := HT2.out.trans t3 (fun _ _ e => e)
      clear i3 t3
      clear d0 d1 d2 d3 d4 d5 d6 d7 k0
      have HX : Hid (InAct K (n + 7) w3 a c (Cn.handle x p) ∧ Touch (OfAct K) w w3) := by
        refine ⟨InAct.eq ((HI3.out.less HL.out).wide (by simp; try omega)) ?_, HP.out.trans (HT3.out.loose HL.out) (fun _ _ e => e)⟩
        unfold Cn.handle; rw [if_neg E1.out, if_neg E2.out, if_pos E3.out, if_pos HO2.out]
      clear HI3 HT3
      go_wp2
      first
        | (go_end0; exact ⟨rfl, HX.out⟩)
        | exact bodyPost_ret (results_none rfl _ _ _) rfl ⟨rfl, HX.out⟩
  have b3 : (p.kind == 5) = false := by simpa using e3
  by_cases e4 : p.kind = 9
  · have b4 : (p.kind == 9) = true := by simpa using e4
    have E1 := Lib.hid e1
    have E2 := Lib.hid e2
    have E3 := Lib.hid e3
    have E4 := Lib.hid e4
    clear e1 e2 e3 e4
    cases old
    · have HO2 : Hid (¬ p.sq = x.1.peer) := HO.out
      go_wp2_with fail
      refine (recover_any HI2.out (by omega) p).mono ?_
      rintro e w3 ⟨rfl, i3, t3⟩
      have HI3 := Lib.hid i3
      have HT3 : Hid (Touch (OfAct K1) _ w3) := HT2.out.trans t3 (fun _ _ e => e)
      clear i3 t3
      clear d0 d1 d2 d3 d4 d5 d6 d7 k0
      have HX : Hid (InAct K (n + 7) w3 a c (Cn.handle x p) ∧ Touch (OfAct K) w w3) := by
        refine ⟨InAct.eq ((HI3.out.less HL.out).wide (by simp; try omega)) ?_, HP.out.trans (HT3.out.loose HL.out) (fun _ _ e => e)⟩
        unfold Cn.handle; rw [if_neg E1.out, if_neg E2.out, if_neg E3.out, if_pos E4.out, if_neg HO2.out]
      clear HI3 HT3
      go_wp2
      first
        | (go_end0; exact ⟨rfl, HX.out⟩)
        | exact bodyPost_ret (results_none rfl _ _ _) rfl ⟨rfl, HX.out⟩
    · have HO2 : Hid (p.sq = x.1.peer) := HO.out
      go_wp2_with fail
      refine (back_lit HI2.out p 15 [8, 10] (by simp; omega)).mono ?_
      rintro e w3 ⟨rfl, i3, t3⟩
      have HI3 := Lib.hid i3
      have HT3 : Hid (Touch (OfAct K1) _ w3) := HT2.out.trans t3 (fun _ _ e => e)
      clear i3 t3
      clear d0 d1 d2 d3 d4 d5 d6 d7 k0
      have HX : Hid (InAct K (n + 7) w3 a c (Cn.handle x p) ∧ Touch (OfAct K) w w3) := by
        refine ⟨InAct.eq ((HI3.out.less HL.out).wide (by simp; try omega)) ?_, HP.out.trans (HT3.out.loose HL.out) (fun _ _ e => e)⟩
        unfold Cn.handle; rw [if_neg E1.out, if_neg E2.out, if_neg E3.out, if_pos E4.out, if_pos HO2.out]
      clear HI3 HT3
      go_wp2
      first
        | (go_end0; exact ⟨rfl, HX.out⟩)
        | exact bodyPost_ret (results_none rfl _ _ _) rfl ⟨rfl, HX.out⟩
  have b4 : (p.kind == 9) = false := by simpa using e4
  have HN : Hid (¬ p.kind = 1 ∧ ¬ p.kind = 3 ∧ ¬ p.kind = 5 ∧ ¬ p.kind = 9) := ⟨e1, e2, e3, e4⟩
  clear e1 e2 e3 e4
  cases fits
  · have HO2 : Hid (¬ p.sq = x.1.sq) := HFI.out
    have HX : Hid (InAct K (n + 7) w2 a c (Cn.handle x p) ∧ Touch (OfAct K) w w2) := by
      refine ⟨InAct.eq ((HI2.out.less HL.out).wide (by simp; try omega)) ?_, HP.out.trans (HT2.out.loose HL.out) (fun _ _ e => e)⟩
      unfold Cn.handle; rw [if_neg HN.out.1, if_neg HN.out.2.1, if_neg HN.out.2.2.1, if_neg HN.out.2.2.2, if_neg HO2.out]
    clear HI2 HT2
    go_wp2
    first
      | (go_end0; exact ⟨rfl, HX.out⟩)
      | exact bodyPost_ret (results_none rfl _ _ _) rfl ⟨rfl, HX.out⟩
  · have HO2 : Hid (p.sq = x.1.sq) := HFI.out
    go_wp2_with fail
    refine (answer_any HI2.out (by omega) p).mono ?_
    rintro e w3 ⟨rfl, i3, t3⟩
    have HI3 := Lib.hid i3
    have HT3 : Hid (Touch (OfAct K1) _ w3) := HT2.out.trans t3 (fun _ _ e => e)
    clear i3 t3
    clear d0 d1 d2 d3 d4 d5 d6 d7 k0
    have HX : Hid (InAct K (n + 7) w3 a c (Cn.handle x p) ∧ Touch (OfAct K) w w3) := by
      refine ⟨InAct.eq ((HI3.out.less HL.out).wide (by simp; try omega)) ?_, HP.out.trans (HT3.out.loose HL.out) (fun _ _ e => e)⟩
      unfold Cn.handle; rw [if_neg HN.out.1, if_neg HN.out.2.1, if_neg HN.out.2.2.1, if_neg HN.out.2.2.2, if_pos HO2.out]
    clear HI3 HT3
    go_wp2
    first
      | (go_end0; exact ⟨rfl, HX.out⟩)
      | exact bodyPost_ret (results_none rfl _ _ _) rfl ⟨rfl, HX.out⟩

set_option maxHeartbeats 2000000 in
theorem ask_any {K : Nat → Prop} {n : Nat} {w : World} {a c : Nat} {x : Cn.SR} (h : InAct K n w a c x) (hn : n ≤ 80) (kind : Int) (d : ByteArray) :
    Calls Try.prog 26 #[.pointer (some ⟨a, 0, none⟩), .int .i64 kind, .string d] w fun e w' => e = .returned (.tuple #[]) ∧ InAct K (n + 1) w' a c (Cn.ask x kind d) ∧ Touch (OfAct K) w w' := by
  obtain ⟨st, hst⟩ : ∃ st, x.1.state = st := ⟨_, rfl⟩
  have HS := Lib.hid hst
  obtain ⟨sq, hsq⟩ : ∃ sq, x.1.sq = sq := ⟨_, rfl⟩
  have HSQ := Lib.hid hsq
  obtain ⟨peer, hpe⟩ : ∃ peer, x.1.peer = peer := ⟨_, rfl⟩
  have HPE := Lib.hid hpe
  have HI1 := Lib.hid h
  have HT1 : Hid (Touch (OfAct K) w w) := Touch.refl _ _
  clear h hst hsq hpe
  go_enter Try.func26, Try.ntmps26
  obtain ⟨w1, rfl⟩ : ∃ w1, w1 = w := ⟨_, rfl⟩
  have hh := HI1.out
  obtain ⟨A1, c1, A2, c2, hh⟩ := hh
  have k0 : w1.cell? ⟨a, 0, none⟩ = some (.pointer (some ⟨c, 0, none⟩)) := hh.blk.cell 0
  have s2 : w1.cell? ⟨c, 2, none⟩ = some (.int .i64 st) := by rw [← HS.out]; exact hh.conn.cell 2
  have s4 : w1.cell? ⟨c, 4, none⟩ = some (.int .i64 peer) := by rw [← HPE.out]; exact hh.conn.cell 4
  clear hh
  by_cases e1 : kind = 1
  · subst e1
    go_wp2_with fail
    refine (begin_any HI1.out (by omega) 2 d).mono ?_
    rintro e w2 ⟨rfl, i2, t2⟩
    have HI2 := Lib.hid i2
    have HT2 : Hid (Touch (OfAct K) _ w2) := HT1.out.trans t2 (fun _ _ e => e)
    clear i2 t2
    clear k0 s2 s4
    have HX : Hid (InAct K (n + 1) w2 a c (Cn.ask x 1 d) ∧ Touch (OfAct K) w1 w2) := by
      refine ⟨InAct.eq (HI2.out.wide (by omega)) ?_, HT2.out⟩
      unfold Cn.ask; rw [if_pos rfl]
    clear HI2 HT2
    go_wp2
    first
      | (go_end0; exact ⟨rfl, HX.out⟩)
      | exact bodyPost_ret (results_none rfl _ _ _) rfl ⟨rfl, HX.out⟩
  have b1 : (kind == 1) = false := by simpa using e1
  by_cases e2 : kind = 2
  · subst e2
    go_wp2_with fail
    refine (out_any HI1.out (by omega) (Cn.unit_ 2 peer false Cn.no)).mono ?_
    rintro e w2 ⟨rfl, i2, t2⟩
    have HI2 := Lib.hid i2
    have HT2 : Hid (Touch (OfAct K) _ w2) := HT1.out.trans t2 (fun _ _ e => e)
    clear i2 t2
    clear k0 s2 s4
    go_wp2_with fail
    refine (ready_any HI2.out (by omega)).mono ?_
    rintro e w3 ⟨rfl, i3, t3⟩
    have HI3 := Lib.hid i3
    have HT3 : Hid (Touch (OfAct K) _ w3) := HT2.out.trans t3 (fun _ _ e => e)
    clear i3 t3
    have HX : Hid (InAct K (n + 1) w3 a c (Cn.ask x 2 d) ∧ Touch (OfAct K) w1 w3) := by
      refine ⟨InAct.eq (HI3.out.wide (by omega)) ?_, HT3.out⟩
      unfold Cn.ask; rw [if_neg (by decide), if_pos rfl, HPE.out]
    clear HI3 HT3
    go_wp2
    first
      | (go_end0; exact ⟨rfl, HX.out⟩)
      | exact bodyPost_ret (results_none rfl _ _ _) rfl ⟨rfl, HX.out⟩
  have b2 : (kind == 2) = false := by simpa using e2
  by_cases e3 : kind = 3
  · subst e3
    by_cases es : st = 3
    · subst es
      go_wp2_with fail
      refine (out_any HI1.out (by omega) (Cn.unit_ 7 peer false d)).mono ?_
      rintro e w2 ⟨rfl, i2, t2⟩
      have HI2 := Lib.hid i2
      have HT2 : Hid (Touch (OfAct K) _ w2) := HT1.out.trans t2 (fun _ _ e => e)
      clear i2 t2
      clear k0 s2 s4
      go_wp2_with fail
      refine (to_any' HI2.out 1).mono ?_
      rintro e w3 ⟨rfl, i3, t3⟩
      have HI3 := Lib.hid i3
      have HT3 : Hid (Touch (OfAct K) _ w3) := HT2.out.trans t3 (fun _ _ e => e)
      clear i3 t3
      have HX : Hid (InAct K (n + 1) w3 a c (Cn.ask x 3 d) ∧ Touch (OfAct K) w1 w3) := by
        refine ⟨InAct.eq (HI3.out.wide (by omega)) ?_, HT3.out⟩
        unfold Cn.ask; rw [if_neg (by decide), if_neg (by decide), if_pos rfl, if_pos HS.out, HPE.out]
      clear HI3 HT3
      go_wp2
      first
        | (go_end0; exact ⟨rfl, HX.out⟩)
        | exact bodyPost_ret (results_none rfl _ _ _) rfl ⟨rfl, HX.out⟩
    have bs : (st == 3) = false := by simpa using es
    have Es := Lib.hid es
    clear es
    go_wp2_with fail
    refine (leave_any HI1.out (by omega) d).mono ?_
    rintro e w2 ⟨rfl, i2, t2⟩
    have HI2 := Lib.hid i2
    have HT2 : Hid (Touch (OfAct K) _ w2) := HT1.out.trans t2 (fun _ _ e => e)
    clear i2 t2
    clear k0 s2 s4
    have HX : Hid (InAct K (n + 1) w2 a c (Cn.ask x 3 d) ∧ Touch (OfAct K) w1 w2) := by
      refine ⟨InAct.eq (HI2.out.wide (by omega)) ?_, HT2.out⟩
      unfold Cn.ask; rw [if_neg (by decide), if_neg (by decide), if_pos rfl, if_neg (by rw [HS.out]; exact Es.out)]
    clear HI2 HT2
    go_wp2
    first
      | (go_end0; exact ⟨rfl, HX.out⟩)
      | exact bodyPost_ret (results_none rfl _ _ _) rfl ⟨rfl, HX.out⟩
  have b3 : (kind == 3) = false := by simpa using e3
  by_cases e4 : kind = 4
  · subst e4
    go_wp2_with fail
    refine (begin_any HI1.out (by omega) 5 d).mono ?_
    rintro e w2 ⟨rfl, i2, t2⟩
    have HI2 := Lib.hid i2
    have HT2 : Hid (Touch (OfAct K) _ w2) := HT1.out.trans t2 (fun _ _ e => e)
    clear i2 t2
    clear k0 s2 s4
    have HX : Hid (InAct K (n + 1) w2 a c (Cn.ask x 4 d) ∧ Touch (OfAct K) w1 w2) := by
      refine ⟨InAct.eq (HI2.out.wide (by omega)) ?_, HT2.out⟩
      unfold Cn.ask; rw [if_neg (by decide), if_neg (by decide), if_neg (by decide), if_pos rfl]
    clear HI2 HT2
    go_wp2
    first
      | (go_end0; exact ⟨rfl, HX.out⟩)
      | exact bodyPost_ret (results_none rfl _ _ _) rfl ⟨rfl, HX.out⟩
  have b4 : (kind == 4) = false := by simpa using e4
  by_cases e5 : kind = 5
  · subst e5
    go_wp2_with fail
    refine (out_any HI1.out (by omega) (Cn.unit_ 6 peer false Cn.no)).mono ?_
    rintro e w2 ⟨rfl, i2, t2⟩
    have HI2 := Lib.hid i2
    have HT2 : Hid (Touch (OfAct K) _ w2) := HT1.out.trans t2 (fun _ _ e => e)
    clear i2 t2
    clear k0 s2 s4
    go_wp2_with fail
    refine (ready_any HI2.out (by omega)).mono ?_
    rintro e w3 ⟨rfl, i3, t3⟩
    have HI3 := Lib.hid i3
    have HT3 : Hid (Touch (OfAct K) _ w3) := HT2.out.trans t3 (fun _ _ e => e)
    clear i3 t3
    have HX : Hid (InAct K (n + 1) w3 a c (Cn.ask x 5 d) ∧ Touch (OfAct K) w1 w3) := by
      refine ⟨InAct.eq (HI3.out.wide (by omega)) ?_, HT3.out⟩
      unfold Cn.ask; rw [if_neg (by decide), if_neg (by decide), if_neg (by decide), if_neg (by decide), if_pos rfl, HPE.out]
    clear HI3 HT3
    go_wp2
    first
      | (go_end0; exact ⟨rfl, HX.out⟩)
      | exact bodyPost_ret (results_none rfl _ _ _) rfl ⟨rfl, HX.out⟩
  have b5 : (kind == 5) = false := by simpa using e5
  by_cases e6 : kind = 6
  · subst e6
    by_cases es : st = 9
    · subst es
      go_wp2_with fail
      refine (out_any HI1.out (by omega) (Cn.unit_ 15 peer false Cn.no)).mono ?_
      rintro e w2 ⟨rfl, i2, t2⟩
      have HI2 := Lib.hid i2
      have HT2 : Hid (Touch (OfAct K) _ w2) := HT1.out.trans t2 (fun _ _ e => e)
      clear i2 t2
      clear k0 s2 s4
      go_wp2_with fail
      refine (ready_any HI2.out (by omega)).mono ?_
      rintro e w3 ⟨rfl, i3, t3⟩
      have HI3 := Lib.hid i3
      have HT3 : Hid (Touch (OfAct K) _ w3) := HT2.out.trans t3 (fun _ _ e => e)
      clear i3 t3
      have HX : Hid (InAct K (n + 1) w3 a c (Cn.ask x 6 d) ∧ Touch (OfAct K) w1 w3) := by
        refine ⟨InAct.eq (HI3.out.wide (by omega)) ?_, HT3.out⟩
        unfold Cn.ask; rw [if_neg (by decide), if_neg (by decide), if_neg (by decide), if_neg (by decide), if_neg (by decide), if_pos rfl, if_pos HS.out, HPE.out]
      clear HI3 HT3
      go_wp2
      first
        | (go_end0; exact ⟨rfl, HX.out⟩)
        | exact bodyPost_ret (results_none rfl _ _ _) rfl ⟨rfl, HX.out⟩
    have bs : (st == 9) = false := by simpa using es
    have Es := Lib.hid es
    clear es
    go_wp2_with fail
    refine (ready_any HI1.out (by omega)).mono ?_
    rintro e w2 ⟨rfl, i2, t2⟩
    have HI2 := Lib.hid i2
    have HT2 : Hid (Touch (OfAct K) _ w2) := HT1.out.trans t2 (fun _ _ e => e)
    clear i2 t2
    clear k0 s2 s4
    have HX : Hid (InAct K (n + 1) w2 a c (Cn.ask x 6 d) ∧ Touch (OfAct K) w1 w2) := by
      refine ⟨InAct.eq (HI2.out.wide (by omega)) ?_, HT2.out⟩
      unfold Cn.ask; rw [if_neg (by decide), if_neg (by decide), if_neg (by decide), if_neg (by decide), if_neg (by decide), if_pos rfl, if_neg (by rw [HS.out]; exact Es.out)]
    clear HI2 HT2
    go_wp2
    first
      | (go_end0; exact ⟨rfl, HX.out⟩)
      | exact bodyPost_ret (results_none rfl _ _ _) rfl ⟨rfl, HX.out⟩
  have b6 : (kind == 6) = false := by simpa using e6
  have HN : Hid (¬ kind = 1 ∧ ¬ kind = 2 ∧ ¬ kind = 3 ∧ ¬ kind = 4 ∧ ¬ kind = 5 ∧ ¬ kind = 6) := ⟨e1, e2, e3, e4, e5, e6⟩
  clear e1 e2 e3 e4 e5 e6
  have HX : Hid (InAct K (n + 1) w1 a c (Cn.ask x kind d) ∧ Touch (OfAct K) w1 w1) := by
    refine ⟨InAct.eq (HI1.out.wide (by omega)) ?_, HT1.out⟩
    obtain ⟨n1, n2, n3, n4, n5, n6⟩ := HN.out; unfold Cn.ask; rw [if_neg n1, if_neg n2, if_neg n3, if_neg n4, if_neg n5, if_neg n6]
  clear HI1 HT1
  go_wp2
  first
    | (go_end0; exact ⟨rfl, HX.out⟩)
    | exact bodyPost_ret (results_none rfl _ _ _) rfl ⟨rfl, HX.out⟩
end Go.Proofs.Ytkmegkjkbalooaa
