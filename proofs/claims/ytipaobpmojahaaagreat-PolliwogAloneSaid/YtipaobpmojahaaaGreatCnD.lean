/-
  conn: what an act does with a unit.
-/
import Derived.Test.YtipaobpmojahaaaGreatCnC
namespace Go.Proofs.YtipaobpmojahaaaGreat
open Go.RowKit

/-- back with a literal of states. -/
theorem back_lit {K : Nat → Prop} {n : Nat} {w : World} {a c : Nat} {x : Cn.SR} (h : InAct K n w a c x) (p : Cn.Pd) (kind : Int) (ks : List Int) (hn : n + ks.length ≤ 90) :
    Calls Tryz.prog 238 #[.pointer (some ⟨a, 0, none⟩), pduV p, .int .i64 kind, .slice (some ⟨w.heap.size, 0, none⟩) ks.length ks.length] (w.alloc (.cells (ks.map (Value.int .i64)).toArray 3)) fun e w' => e = .returned (.tuple #[]) ∧ InAct K (n + ks.length) w' a c (Cn.backs x p kind ks) ∧ Touch (OfAct K) w w' := by
  have HF : Fresh w (w.alloc (.cells (ks.map (Value.int .i64)).toArray 3)) := (Touch.refl _ w).alloc _
  refine (back_any (h.keep HF) p kind (Sl.rd (Sl.lit intE w _ rfl _ ks (by rw [intE_all]) _ rfl (by unfold maxLen; omega))) (fun ad e _ => ?_) hn).mono ?_
  · injection e with e
    subst e
    exact .inr ⟨Nat.le_refl _, by simp⟩
  · rintro e w' ⟨rfl, i, t⟩
    exact ⟨rfl, i.less (fun k e => .inl e), (HF.mono (fun _ _ e => e.elim)).trans (t.loose (fun k e => .inl e)) (fun _ _ e => e)⟩

set_option maxHeartbeats 2000000 in
theorem oldBegin_any {K : Nat → Prop} {n : Nat} {w : World} {a c : Nat} {x : Cn.SR} (h : InAct K n w a c x) (hn : n ≤ 80) (p : Cn.Pd) :
    Calls Tryz.prog 235 #[.pointer (some ⟨a, 0, none⟩), pduV p] w fun e w' => e = .returned (.tuple #[]) ∧ InAct K (n + 7) w' a c (Cn.oldBegin x p) ∧ Touch (OfAct K) w w' := by
  unfold pduV
  have HF : Hid (Fresh w (w.alloc (.cells #[.int .i64 p.kind, .int .i64 p.sq, .int .u32 p.n, .int .u32 p.ps, .int .u32 p.mr, .slice p.lA p.ln p.lc, .bool p.self, .string p.data] 58))) := (Touch.refl _ w).alloc _
  have HB := Lib.hid (Blk.boxed w p)
  have HI1 := Lib.hid (h.keep HF.out)
  have HG : Hid (Kept K w (w.alloc (.cells #[.int .i64 p.kind, .int .i64 p.sq, .int .u32 p.n, .int .u32 p.ps, .int .u32 p.mr, .slice p.lA p.ln p.lc, .bool p.self, .string p.data] 58)) w.heap.size) := .inr ⟨Nat.le_refl _, by simp⟩
  have HL : Hid (∀ k, K k → Kept K w (w.alloc (.cells #[.int .i64 p.kind, .int .i64 p.sq, .int .u32 p.n, .int .u32 p.ps, .int .u32 p.mr, .slice p.lA p.ln p.lc, .bool p.self, .string p.data] 58)) k) := fun k e => .inl e
  have HP : Hid (Touch (OfAct K) w (w.alloc (.cells #[.int .i64 p.kind, .int .i64 p.sq, .int .u32 p.n, .int .u32 p.ps, .int .u32 p.mr, .slice p.lA p.ln p.lc, .bool p.self, .string p.data] 58))) := HF.out.mono (fun _ _ e => e.elim)
  obtain ⟨st, hst⟩ : ∃ st, x.1.state = st := ⟨_, rfl⟩
  have HS := Lib.hid hst
  obtain ⟨sq, hsq⟩ : ∃ sq, x.1.sq = sq := ⟨_, rfl⟩
  have HSQ := Lib.hid hsq
  obtain ⟨peer, hpe⟩ : ∃ peer, x.1.peer = peer := ⟨_, rfl⟩
  have HPE := Lib.hid hpe
  clear h hst hsq hpe
  go_enter Tryz.func235, Tryz.ntmps235
  go_upto_region 1 with (fail)
  generalize (w.alloc (.cells #[.int .i64 p.kind, .int .i64 p.sq, .int .u32 p.n, .int .u32 p.ps, .int .u32 p.mr, .slice p.lA p.ln p.lc, .bool p.self, .string p.data] 58)) = w1 at *
  generalize Kept K w w1 = K1 at *
  generalize w.heap.size = g at *
  have HT1 : Hid (Touch (OfAct K1) w1 w1) := Touch.refl _ _
  have hb := HT1.out.keptB HB.out HG.out
  have d0 : w1.cell? ⟨g, 0, none⟩ = some (.int .i64 p.kind) := hb.cell 0
  have d1 : w1.cell? ⟨g, 1, none⟩ = some (.int .i64 p.sq) := hb.cell 1
  have d2 : w1.cell? ⟨g, 2, none⟩ = some (.int .u32 p.n) := hb.cell 2
  have d3 : w1.cell? ⟨g, 3, none⟩ = some (.int .u32 p.ps) := hb.cell 3
  have d4 : w1.cell? ⟨g, 4, none⟩ = some (.int .u32 p.mr) := hb.cell 4
  have d5 : w1.cell? ⟨g, 5, none⟩ = some (.slice p.lA p.ln p.lc) := hb.cell 5
  have d6 : w1.cell? ⟨g, 6, none⟩ = some (.bool p.self) := hb.cell 6
  have d7 : w1.cell? ⟨g, 7, none⟩ = some (.string p.data) := hb.cell 7
  clear hb
  have hh := HI1.out
  obtain ⟨A1, c1, A2, c2, hh⟩ := hh
  have k0 : w1.cell? ⟨a, 0, none⟩ = some (.pointer (some ⟨c, 0, none⟩)) := hh.blk.cell 0
  have s2 : w1.cell? ⟨c, 2, none⟩ = some (.int .i64 st) := by rw [← HS.out]; exact hh.conn.cell 2
  clear hh
  go_wp2_with fail
  refine (back_lit HI1.out p 7 [1] (by simp; omega)).mono ?_
  rintro e w2 ⟨rfl, i2, t2⟩
  have HI2 := Lib.hid i2
  have HT2 : Hid (Touch (OfAct K1) _ w2) := HT1.out.trans t2 (fun _ _ e => e)
  clear i2 t2
  clear d0 d1 d2 d3 d4 d5 d6 d7 k0 s2
  have hb := HT2.out.keptB HB.out HG.out
  have d0 : w2.cell? ⟨g, 0, none⟩ = some (.int .i64 p.kind) := hb.cell 0
  have d1 : w2.cell? ⟨g, 1, none⟩ = some (.int .i64 p.sq) := hb.cell 1
  have d2 : w2.cell? ⟨g, 2, none⟩ = some (.int .u32 p.n) := hb.cell 2
  have d3 : w2.cell? ⟨g, 3, none⟩ = some (.int .u32 p.ps) := hb.cell 3
  have d4 : w2.cell? ⟨g, 4, none⟩ = some (.int .u32 p.mr) := hb.cell 4
  have d5 : w2.cell? ⟨g, 5, none⟩ = some (.slice p.lA p.ln p.lc) := hb.cell 5
  have d6 : w2.cell? ⟨g, 6, none⟩ = some (.bool p.self) := hb.cell 6
  have d7 : w2.cell? ⟨g, 7, none⟩ = some (.string p.data) := hb.cell 7
  clear hb
  have hh := HI2.out
  obtain ⟨A1, c1, A2, c2, hh⟩ := hh
  have k0 : w2.cell? ⟨a, 0, none⟩ = some (.pointer (some ⟨c, 0, none⟩)) := hh.blk.cell 0
  clear hh
  go_wp2_with fail
  refine (back_lit HI2.out p 2 [5, 6, 7, 8, 9, 10] (by simp; omega)).mono ?_
  rintro e w3 ⟨rfl, i3, t3⟩
  have HI3 := Lib.hid i3
  have HT3 : Hid (Touch (OfAct K1) _ w3) := HT2.out.trans t3 (fun _ _ e => e)
  clear i3 t3
  clear d0 d1 d2 d3 d4 d5 d6 d7 k0
  have HX : Hid (InAct K (n + 7) w3 a c (Cn.oldBegin x p) ∧ Touch (OfAct K) w w3) := by
    refine ⟨InAct.eq ((HI3.out.less HL.out).wide (by simp; try omega)) ?_, HP.out.trans (HT3.out.loose HL.out) (fun _ _ e => e)⟩
    rfl
  clear HI3 HT3
  go_wp2
  first
    | (go_end0; exact ⟨rfl, HX.out⟩)
    | exact bodyPost_ret (results_none rfl _ _ _) rfl ⟨rfl, HX.out⟩

set_option maxHeartbeats 2000000 in
theorem end_any {K : Nat → Prop} {n : Nat} {w : World} {a c : Nat} {x : Cn.SR} (h : InAct K n w a c x) (hn : n ≤ 80) (p : Cn.Pd) :
    Calls Tryz.prog 237 #[.pointer (some ⟨a, 0, none⟩), pduV p] w fun e w' => e = .returned (.tuple #[]) ∧ InAct K (n + 2) w' a c (Cn.end_ x p) ∧ Touch (OfAct K) w w' := by
  unfold pduV
  have HF : Hid (Fresh w (w.alloc (.cells #[.int .i64 p.kind, .int .i64 p.sq, .int .u32 p.n, .int .u32 p.ps, .int .u32 p.mr, .slice p.lA p.ln p.lc, .bool p.self, .string p.data] 58))) := (Touch.refl _ w).alloc _
  have HB := Lib.hid (Blk.boxed w p)
  have HI1 := Lib.hid (h.keep HF.out)
  have HG : Hid (Kept K w (w.alloc (.cells #[.int .i64 p.kind, .int .i64 p.sq, .int .u32 p.n, .int .u32 p.ps, .int .u32 p.mr, .slice p.lA p.ln p.lc, .bool p.self, .string p.data] 58)) w.heap.size) := .inr ⟨Nat.le_refl _, by simp⟩
  have HL : Hid (∀ k, K k → Kept K w (w.alloc (.cells #[.int .i64 p.kind, .int .i64 p.sq, .int .u32 p.n, .int .u32 p.ps, .int .u32 p.mr, .slice p.lA p.ln p.lc, .bool p.self, .string p.data] 58)) k) := fun k e => .inl e
  have HP : Hid (Touch (OfAct K) w (w.alloc (.cells #[.int .i64 p.kind, .int .i64 p.sq, .int .u32 p.n, .int .u32 p.ps, .int .u32 p.mr, .slice p.lA p.ln p.lc, .bool p.self, .string p.data] 58))) := HF.out.mono (fun _ _ e => e.elim)
  obtain ⟨st, hst⟩ : ∃ st, x.1.state = st := ⟨_, rfl⟩
  have HS := Lib.hid hst
  obtain ⟨sq, hsq⟩ : ∃ sq, x.1.sq = sq := ⟨_, rfl⟩
  have HSQ := Lib.hid hsq
  obtain ⟨peer, hpe⟩ : ∃ peer, x.1.peer = peer := ⟨_, rfl⟩
  have HPE := Lib.hid hpe
  clear h hst hsq hpe
  go_enter Tryz.func237, Tryz.ntmps237
  go_upto_region 1 with (fail)
  generalize (w.alloc (.cells #[.int .i64 p.kind, .int .i64 p.sq, .int .u32 p.n, .int .u32 p.ps, .int .u32 p.mr, .slice p.lA p.ln p.lc, .bool p.self, .string p.data] 58)) = w1 at *
  generalize Kept K w w1 = K1 at *
  generalize w.heap.size = g at *
  have HT1 : Hid (Touch (OfAct K1) w1 w1) := Touch.refl _ _
  have hb := HT1.out.keptB HB.out HG.out
  have d0 : w1.cell? ⟨g, 0, none⟩ = some (.int .i64 p.kind) := hb.cell 0
  have d1 : w1.cell? ⟨g, 1, none⟩ = some (.int .i64 p.sq) := hb.cell 1
  have d2 : w1.cell? ⟨g, 2, none⟩ = some (.int .u32 p.n) := hb.cell 2
  have d3 : w1.cell? ⟨g, 3, none⟩ = some (.int .u32 p.ps) := hb.cell 3
  have d4 : w1.cell? ⟨g, 4, none⟩ = some (.int .u32 p.mr) := hb.cell 4
  have d5 : w1.cell? ⟨g, 5, none⟩ = some (.slice p.lA p.ln p.lc) := hb.cell 5
  have d6 : w1.cell? ⟨g, 6, none⟩ = some (.bool p.self) := hb.cell 6
  have d7 : w1.cell? ⟨g, 7, none⟩ = some (.string p.data) := hb.cell 7
  clear hb
  have hh := HI1.out
  obtain ⟨A1, c1, A2, c2, hh⟩ := hh
  have k0 : w1.cell? ⟨a, 0, none⟩ = some (.pointer (some ⟨c, 0, none⟩)) := hh.blk.cell 0
  have s2 : w1.cell? ⟨c, 2, none⟩ = some (.int .i64 st) := by rw [← HS.out]; exact hh.conn.cell 2
  clear hh
  go_wp2_with fail
  refine (out_any HI1.out (by omega) (Cn.unit_ 4 p.sq false Cn.no)).mono ?_
  rintro e w2 ⟨rfl, i2, t2⟩
  have HI2 := Lib.hid i2
  have HT2 : Hid (Touch (OfAct K1) _ w2) := HT1.out.trans t2 (fun _ _ e => e)
  clear i2 t2
  clear d0 d1 d2 d3 d4 d5 d6 d7 k0 s2
  have hb := HT2.out.keptB HB.out HG.out
  have d0 : w2.cell? ⟨g, 0, none⟩ = some (.int .i64 p.kind) := hb.cell 0
  have d1 : w2.cell? ⟨g, 1, none⟩ = some (.int .i64 p.sq) := hb.cell 1
  have d2 : w2.cell? ⟨g, 2, none⟩ = some (.int .u32 p.n) := hb.cell 2
  have d3 : w2.cell? ⟨g, 3, none⟩ = some (.int .u32 p.ps) := hb.cell 3
  have d4 : w2.cell? ⟨g, 4, none⟩ = some (.int .u32 p.mr) := hb.cell 4
  have d5 : w2.cell? ⟨g, 5, none⟩ = some (.slice p.lA p.ln p.lc) := hb.cell 5
  have d6 : w2.cell? ⟨g, 6, none⟩ = some (.bool p.self) := hb.cell 6
  have d7 : w2.cell? ⟨g, 7, none⟩ = some (.string p.data) := hb.cell 7
  clear hb
  have hh := HI2.out
  obtain ⟨A1, c1, A2, c2, hh⟩ := hh
  have k0 : w2.cell? ⟨a, 0, none⟩ = some (.pointer (some ⟨c, 0, none⟩)) := hh.blk.cell 0
  have s2 : w2.cell? ⟨c, 2, none⟩ = some (.int .i64 st) := by rw [← HS.out]; exact hh.conn.cell 2
  clear hh
  by_cases e1 : st = 1
  · subst e1
    have HX : Hid (InAct K (n + 2) w2 a c (Cn.end_ x p) ∧ Touch (OfAct K) w w2) := by
      refine ⟨InAct.eq ((HI2.out.less HL.out).wide (by simp; try omega)) ?_, HP.out.trans (HT2.out.loose HL.out) (fun _ _ e => e)⟩
      unfold Cn.end_; rw [if_pos HS.out]
    clear HI2 HT2
    go_wp2
    first
      | (go_end0; exact ⟨rfl, HX.out⟩)
      | exact bodyPost_ret (results_none rfl _ _ _) rfl ⟨rfl, HX.out⟩
  have b1 : (st == 1) = false := by simpa using e1
  by_cases e2 : st = 4
  · subst e2
    go_wp2_with fail
    refine (tell_any HI2.out (by omega) (Cn.sig 4 false Cn.no)).mono ?_
    rintro e w3 ⟨rfl, i3, t3⟩
    have HI3 := Lib.hid i3
    have HT3 : Hid (Touch (OfAct K1) _ w3) := HT2.out.trans t3 (fun _ _ e => e)
    clear i3 t3
    clear d0 d1 d2 d3 d4 d5 d6 d7 k0 s2
    go_wp2_with fail
    refine (stop_any HI3.out (by omega) 1).mono ?_
    rintro e w4 ⟨rfl, i4, t4⟩
    have HI4 := Lib.hid i4
    have HT4 : Hid (Touch (OfAct K1) _ w4) := HT3.out.trans t4 (fun _ _ e => e)
    clear i4 t4
    have HX : Hid (InAct K (n + 2) w4 a c (Cn.end_ x p) ∧ Touch (OfAct K) w w4) := by
      refine ⟨InAct.eq ((HI4.out.less HL.out).wide (by simp; try omega)) ?_, HP.out.trans (HT4.out.loose HL.out) (fun _ _ e => e)⟩
      unfold Cn.end_; rw [if_neg (by rw [HS.out]; decide), if_pos HS.out]
    clear HI4 HT4
    go_wp2
    first
      | (go_end0; exact ⟨rfl, HX.out⟩)
      | exact bodyPost_ret (results_none rfl _ _ _) rfl ⟨rfl, HX.out⟩
  have b2 : (st == 4) = false := by simpa using e2
  have E1 := Lib.hid e1
  have E2 := Lib.hid e2
  clear e1 e2
  go_wp2_with fail
  refine (tell_any HI2.out (by omega) (Cn.sig 3 p.self p.data)).mono ?_
  rintro e w3 ⟨rfl, i3, t3⟩
  have HI3 := Lib.hid i3
  have HT3 : Hid (Touch (OfAct K1) _ w3) := HT2.out.trans t3 (fun _ _ e => e)
  clear i3 t3
  clear d0 d1 d2 d3 d4 d5 d6 d7 k0 s2
  go_wp2_with fail
  refine (stop_any HI3.out (by omega) 1).mono ?_
  rintro e w4 ⟨rfl, i4, t4⟩
  have HI4 := Lib.hid i4
  have HT4 : Hid (Touch (OfAct K1) _ w4) := HT3.out.trans t4 (fun _ _ e => e)
  clear i4 t4
  have HX : Hid (InAct K (n + 2) w4 a c (Cn.end_ x p) ∧ Touch (OfAct K) w w4) := by
    refine ⟨InAct.eq ((HI4.out.less HL.out).wide (by simp; try omega)) ?_, HP.out.trans (HT4.out.loose HL.out) (fun _ _ e => e)⟩
    unfold Cn.end_; rw [if_neg (by rw [HS.out]; exact E1.out), if_neg (by rw [HS.out]; exact E2.out)]
  clear HI4 HT4
  go_wp2
  first
    | (go_end0; exact ⟨rfl, HX.out⟩)
    | exact bodyPost_ret (results_none rfl _ _ _) rfl ⟨rfl, HX.out⟩

set_option maxHeartbeats 2000000 in
theorem resync_any {K : Nat → Prop} {n : Nat} {w : World} {a c : Nat} {x : Cn.SR} (h : InAct K n w a c x) (hn : n ≤ 80) (p : Cn.Pd) :
    Calls Tryz.prog 239 #[.pointer (some ⟨a, 0, none⟩), pduV p] w fun e w' => e = .returned (.tuple #[]) ∧ InAct K (n + 2) w' a c (Cn.resync x p) ∧ Touch (OfAct K) w w' := by
  unfold pduV
  have HF : Hid (Fresh w (w.alloc (.cells #[.int .i64 p.kind, .int .i64 p.sq, .int .u32 p.n, .int .u32 p.ps, .int .u32 p.mr, .slice p.lA p.ln p.lc, .bool p.self, .string p.data] 58))) := (Touch.refl _ w).alloc _
  have HB := Lib.hid (Blk.boxed w p)
  have HI1 := Lib.hid (h.keep HF.out)
  have HG : Hid (Kept K w (w.alloc (.cells #[.int .i64 p.kind, .int .i64 p.sq, .int .u32 p.n, .int .u32 p.ps, .int .u32 p.mr, .slice p.lA p.ln p.lc, .bool p.self, .string p.data] 58)) w.heap.size) := .inr ⟨Nat.le_refl _, by simp⟩
  have HL : Hid (∀ k, K k → Kept K w (w.alloc (.cells #[.int .i64 p.kind, .int .i64 p.sq, .int .u32 p.n, .int .u32 p.ps, .int .u32 p.mr, .slice p.lA p.ln p.lc, .bool p.self, .string p.data] 58)) k) := fun k e => .inl e
  have HP : Hid (Touch (OfAct K) w (w.alloc (.cells #[.int .i64 p.kind, .int .i64 p.sq, .int .u32 p.n, .int .u32 p.ps, .int .u32 p.mr, .slice p.lA p.ln p.lc, .bool p.self, .string p.data] 58))) := HF.out.mono (fun _ _ e => e.elim)
  obtain ⟨st, hst⟩ : ∃ st, x.1.state = st := ⟨_, rfl⟩
  have HS := Lib.hid hst
  obtain ⟨sq, hsq⟩ : ∃ sq, x.1.sq = sq := ⟨_, rfl⟩
  have HSQ := Lib.hid hsq
  obtain ⟨peer, hpe⟩ : ∃ peer, x.1.peer = peer := ⟨_, rfl⟩
  have HPE := Lib.hid hpe
  clear h hst hsq hpe
  go_enter Tryz.func239, Tryz.ntmps239
  go_upto_region 1 with (fail)
  generalize (w.alloc (.cells #[.int .i64 p.kind, .int .i64 p.sq, .int .u32 p.n, .int .u32 p.ps, .int .u32 p.mr, .slice p.lA p.ln p.lc, .bool p.self, .string p.data] 58)) = w1 at *
  generalize Kept K w w1 = K1 at *
  generalize w.heap.size = g at *
  have HT1 : Hid (Touch (OfAct K1) w1 w1) := Touch.refl _ _
  have hb := HT1.out.keptB HB.out HG.out
  have d0 : w1.cell? ⟨g, 0, none⟩ = some (.int .i64 p.kind) := hb.cell 0
  have d1 : w1.cell? ⟨g, 1, none⟩ = some (.int .i64 p.sq) := hb.cell 1
  have d2 : w1.cell? ⟨g, 2, none⟩ = some (.int .u32 p.n) := hb.cell 2
  have d3 : w1.cell? ⟨g, 3, none⟩ = some (.int .u32 p.ps) := hb.cell 3
  have d4 : w1.cell? ⟨g, 4, none⟩ = some (.int .u32 p.mr) := hb.cell 4
  have d5 : w1.cell? ⟨g, 5, none⟩ = some (.slice p.lA p.ln p.lc) := hb.cell 5
  have d6 : w1.cell? ⟨g, 6, none⟩ = some (.bool p.self) := hb.cell 6
  have d7 : w1.cell? ⟨g, 7, none⟩ = some (.string p.data) := hb.cell 7
  clear hb
  have hh := HI1.out
  obtain ⟨A1, c1, A2, c2, hh⟩ := hh
  have k0 : w1.cell? ⟨a, 0, none⟩ = some (.pointer (some ⟨c, 0, none⟩)) := hh.blk.cell 0
  have s2 : w1.cell? ⟨c, 2, none⟩ = some (.int .i64 st) := by rw [← HS.out]; exact hh.conn.cell 2
  clear hh
  go_wp2_with fail
  refine (heard_any HI1.out (by omega) p).mono ?_
  rintro e w2 ⟨rfl, i2, t2⟩
  have HI2 := Lib.hid i2
  have HT2 : Hid (Touch (OfAct K1) _ w2) := HT1.out.trans t2 (fun _ _ e => e)
  clear i2 t2
  clear d0 d1 d2 d3 d4 d5 d6 d7 k0 s2
  have hb := HT2.out.keptB HB.out HG.out
  have d0 : w2.cell? ⟨g, 0, none⟩ = some (.int .i64 p.kind) := hb.cell 0
  have d1 : w2.cell? ⟨g, 1, none⟩ = some (.int .i64 p.sq) := hb.cell 1
  have d2 : w2.cell? ⟨g, 2, none⟩ = some (.int .u32 p.n) := hb.cell 2
  have d3 : w2.cell? ⟨g, 3, none⟩ = some (.int .u32 p.ps) := hb.cell 3
  have d4 : w2.cell? ⟨g, 4, none⟩ = some (.int .u32 p.mr) := hb.cell 4
  have d5 : w2.cell? ⟨g, 5, none⟩ = some (.slice p.lA p.ln p.lc) := hb.cell 5
  have d6 : w2.cell? ⟨g, 6, none⟩ = some (.bool p.self) := hb.cell 6
  have d7 : w2.cell? ⟨g, 7, none⟩ = some (.string p.data) := hb.cell 7
  clear hb
  have hh := HI2.out
  obtain ⟨A1, c1, A2, c2, hh⟩ := hh
  have k0 : w2.cell? ⟨a, 0, none⟩ = some (.pointer (some ⟨c, 0, none⟩)) := hh.blk.cell 0
  have s2 : w2.cell? ⟨c, 2, none⟩ = some (.int .i64 st) := by rw [← HS.out]; exact hh.conn.cell 2
  clear hh
  by_cases e1 : st = 5
  · subst e1
    go_wp2_with fail
    refine (out_any HI2.out (by omega) (Cn.unit_ 6 p.sq false Cn.no)).mono ?_
    rintro e w3 ⟨rfl, i3, t3⟩
    have HI3 := Lib.hid i3
    have HT3 : Hid (Touch (OfAct K1) _ w3) := HT2.out.trans t3 (fun _ _ e => e)
    clear i3 t3
    clear d0 d1 d2 d3 d4 d5 d6 d7 k0 s2
    go_wp2_with fail
    refine (tell_any HI3.out (by omega) (Cn.sig 6 false Cn.no)).mono ?_
    rintro e w4 ⟨rfl, i4, t4⟩
    have HI4 := Lib.hid i4
    have HT4 : Hid (Touch (OfAct K1) _ w4) := HT3.out.trans t4 (fun _ _ e => e)
    clear i4 t4
    go_wp2_with fail
    refine (ready_any HI4.out (by omega)).mono ?_
    rintro e w5 ⟨rfl, i5, t5⟩
    have HI5 := Lib.hid i5
    have HT5 : Hid (Touch (OfAct K1) _ w5) := HT4.out.trans t5 (fun _ _ e => e)
    clear i5 t5
    have HX : Hid (InAct K (n + 2) w5 a c (Cn.resync x p) ∧ Touch (OfAct K) w w5) := by
      refine ⟨InAct.eq ((HI5.out.less HL.out).wide (by simp; try omega)) ?_, HP.out.trans (HT5.out.loose HL.out) (fun _ _ e => e)⟩
      unfold Cn.resync; rw [if_pos HS.out]
    clear HI5 HT5
    go_wp2
    first
      | (go_end0; exact ⟨rfl, HX.out⟩)
      | exact bodyPost_ret (results_none rfl _ _ _) rfl ⟨rfl, HX.out⟩
  have b1 : (st == 5) = false := by simpa using e1
  by_cases e2 : st = 6
  · subst e2
    have HX : Hid (InAct K (n + 2) w2 a c (Cn.resync x p) ∧ Touch (OfAct K) w w2) := by
      refine ⟨InAct.eq ((HI2.out.less HL.out).wide (by simp; try omega)) ?_, HP.out.trans (HT2.out.loose HL.out) (fun _ _ e => e)⟩
      unfold Cn.resync; rw [if_neg (by rw [HS.out]; decide), if_pos HS.out]
    clear HI2 HT2
    go_wp2
    first
      | (go_end0; exact ⟨rfl, HX.out⟩)
      | exact bodyPost_ret (results_none rfl _ _ _) rfl ⟨rfl, HX.out⟩
  have b2 : (st == 6) = false := by simpa using e2
  have E1 := Lib.hid e1
  have E2 := Lib.hid e2
  clear e1 e2
  go_wp2_with fail
  refine (tell_any HI2.out (by omega) (Cn.sig 5 false p.data)).mono ?_
  rintro e w3 ⟨rfl, i3, t3⟩
  have HI3 := Lib.hid i3
  have HT3 : Hid (Touch (OfAct K1) _ w3) := HT2.out.trans t3 (fun _ _ e => e)
  clear i3 t3
  clear d0 d1 d2 d3 d4 d5 d6 d7 k0 s2
  go_wp2_with fail
  refine (stop_any HI3.out (by omega) 6).mono ?_
  rintro e w4 ⟨rfl, i4, t4⟩
  have HI4 := Lib.hid i4
  have HT4 : Hid (Touch (OfAct K1) _ w4) := HT3.out.trans t4 (fun _ _ e => e)
  clear i4 t4
  have HX : Hid (InAct K (n + 2) w4 a c (Cn.resync x p) ∧ Touch (OfAct K) w w4) := by
    refine ⟨InAct.eq ((HI4.out.less HL.out).wide (by simp; try omega)) ?_, HP.out.trans (HT4.out.loose HL.out) (fun _ _ e => e)⟩
    unfold Cn.resync; rw [if_neg (by rw [HS.out]; exact E1.out), if_neg (by rw [HS.out]; exact E2.out)]
  clear HI4 HT4
  go_wp2
  first
    | (go_end0; exact ⟨rfl, HX.out⟩)
    | exact bodyPost_ret (results_none rfl _ _ _) rfl ⟨rfl, HX.out⟩

set_option maxHeartbeats 2000000 in
theorem recover_any {K : Nat → Prop} {n : Nat} {w : World} {a c : Nat} {x : Cn.SR} (h : InAct K n w a c x) (hn : n ≤ 80) (p : Cn.Pd) :
    Calls Tryz.prog 240 #[.pointer (some ⟨a, 0, none⟩), pduV p] w fun e w' => e = .returned (.tuple #[]) ∧ InAct K (n + 3) w' a c (Cn.recover x p) ∧ Touch (OfAct K) w w' := by
  unfold pduV
  have HF : Hid (Fresh w (w.alloc (.cells #[.int .i64 p.kind, .int .i64 p.sq, .int .u32 p.n, .int .u32 p.ps, .int .u32 p.mr, .slice p.lA p.ln p.lc, .bool p.self, .string p.data] 58))) := (Touch.refl _ w).alloc _
  have HB := Lib.hid (Blk.boxed w p)
  have HI1 := Lib.hid (h.keep HF.out)
  have HG : Hid (Kept K w (w.alloc (.cells #[.int .i64 p.kind, .int .i64 p.sq, .int .u32 p.n, .int .u32 p.ps, .int .u32 p.mr, .slice p.lA p.ln p.lc, .bool p.self, .string p.data] 58)) w.heap.size) := .inr ⟨Nat.le_refl _, by simp⟩
  have HL : Hid (∀ k, K k → Kept K w (w.alloc (.cells #[.int .i64 p.kind, .int .i64 p.sq, .int .u32 p.n, .int .u32 p.ps, .int .u32 p.mr, .slice p.lA p.ln p.lc, .bool p.self, .string p.data] 58)) k) := fun k e => .inl e
  have HP : Hid (Touch (OfAct K) w (w.alloc (.cells #[.int .i64 p.kind, .int .i64 p.sq, .int .u32 p.n, .int .u32 p.ps, .int .u32 p.mr, .slice p.lA p.ln p.lc, .bool p.self, .string p.data] 58))) := HF.out.mono (fun _ _ e => e.elim)
  obtain ⟨st, hst⟩ : ∃ st, x.1.state = st := ⟨_, rfl⟩
  have HS := Lib.hid hst
  obtain ⟨sq, hsq⟩ : ∃ sq, x.1.sq = sq := ⟨_, rfl⟩
  have HSQ := Lib.hid hsq
  obtain ⟨peer, hpe⟩ : ∃ peer, x.1.peer = peer := ⟨_, rfl⟩
  have HPE := Lib.hid hpe
  clear h hst hsq hpe
  go_enter Tryz.func240, Tryz.ntmps240
  go_upto_region 1 with (fail)
  generalize (w.alloc (.cells #[.int .i64 p.kind, .int .i64 p.sq, .int .u32 p.n, .int .u32 p.ps, .int .u32 p.mr, .slice p.lA p.ln p.lc, .bool p.self, .string p.data] 58)) = w1 at *
  generalize Kept K w w1 = K1 at *
  generalize w.heap.size = g at *
  have HT1 : Hid (Touch (OfAct K1) w1 w1) := Touch.refl _ _
  have hb := HT1.out.keptB HB.out HG.out
  have d0 : w1.cell? ⟨g, 0, none⟩ = some (.int .i64 p.kind) := hb.cell 0
  have d1 : w1.cell? ⟨g, 1, none⟩ = some (.int .i64 p.sq) := hb.cell 1
  have d2 : w1.cell? ⟨g, 2, none⟩ = some (.int .u32 p.n) := hb.cell 2
  have d3 : w1.cell? ⟨g, 3, none⟩ = some (.int .u32 p.ps) := hb.cell 3
  have d4 : w1.cell? ⟨g, 4, none⟩ = some (.int .u32 p.mr) := hb.cell 4
  have d5 : w1.cell? ⟨g, 5, none⟩ = some (.slice p.lA p.ln p.lc) := hb.cell 5
  have d6 : w1.cell? ⟨g, 6, none⟩ = some (.bool p.self) := hb.cell 6
  have d7 : w1.cell? ⟨g, 7, none⟩ = some (.string p.data) := hb.cell 7
  clear hb
  have hh := HI1.out
  obtain ⟨A1, c1, A2, c2, hh⟩ := hh
  have k0 : w1.cell? ⟨a, 0, none⟩ = some (.pointer (some ⟨c, 0, none⟩)) := hh.blk.cell 0
  have s2 : w1.cell? ⟨c, 2, none⟩ = some (.int .i64 st) := by rw [← HS.out]; exact hh.conn.cell 2
  clear hh
  go_wp2_with fail
  refine (heard_any HI1.out (by omega) p).mono ?_
  rintro e w2 ⟨rfl, i2, t2⟩
  have HI2 := Lib.hid i2
  have HT2 : Hid (Touch (OfAct K1) _ w2) := HT1.out.trans t2 (fun _ _ e => e)
  clear i2 t2
  clear d0 d1 d2 d3 d4 d5 d6 d7 k0 s2
  have hb := HT2.out.keptB HB.out HG.out
  have d0 : w2.cell? ⟨g, 0, none⟩ = some (.int .i64 p.kind) := hb.cell 0
  have d1 : w2.cell? ⟨g, 1, none⟩ = some (.int .i64 p.sq) := hb.cell 1
  have d2 : w2.cell? ⟨g, 2, none⟩ = some (.int .u32 p.n) := hb.cell 2
  have d3 : w2.cell? ⟨g, 3, none⟩ = some (.int .u32 p.ps) := hb.cell 3
  have d4 : w2.cell? ⟨g, 4, none⟩ = some (.int .u32 p.mr) := hb.cell 4
  have d5 : w2.cell? ⟨g, 5, none⟩ = some (.slice p.lA p.ln p.lc) := hb.cell 5
  have d6 : w2.cell? ⟨g, 6, none⟩ = some (.bool p.self) := hb.cell 6
  have d7 : w2.cell? ⟨g, 7, none⟩ = some (.string p.data) := hb.cell 7
  clear hb
  have hh := HI2.out
  obtain ⟨A1, c1, A2, c2, hh⟩ := hh
  have k0 : w2.cell? ⟨a, 0, none⟩ = some (.pointer (some ⟨c, 0, none⟩)) := hh.blk.cell 0
  have s2 : w2.cell? ⟨c, 2, none⟩ = some (.int .i64 st) := by rw [← HS.out]; exact hh.conn.cell 2
  clear hh
  go_wp2_with fail
  refine (back_lit HI2.out p 15 [7, 8] (by simp; omega)).mono ?_
  rintro e w3 ⟨rfl, i3, t3⟩
  have HI3 := Lib.hid i3
  have HT3 : Hid (Touch (OfAct K1) _ w3) := HT2.out.trans t3 (fun _ _ e => e)
  clear i3 t3
  clear d0 d1 d2 d3 d4 d5 d6 d7 k0 s2
  have hb := HT3.out.keptB HB.out HG.out
  have d0 : w3.cell? ⟨g, 0, none⟩ = some (.int .i64 p.kind) := hb.cell 0
  have d1 : w3.cell? ⟨g, 1, none⟩ = some (.int .i64 p.sq) := hb.cell 1
  have d2 : w3.cell? ⟨g, 2, none⟩ = some (.int .u32 p.n) := hb.cell 2
  have d3 : w3.cell? ⟨g, 3, none⟩ = some (.int .u32 p.ps) := hb.cell 3
  have d4 : w3.cell? ⟨g, 4, none⟩ = some (.int .u32 p.mr) := hb.cell 4
  have d5 : w3.cell? ⟨g, 5, none⟩ = some (.slice p.lA p.ln p.lc) := hb.cell 5
  have d6 : w3.cell? ⟨g, 6, none⟩ = some (.bool p.self) := hb.cell 6
  have d7 : w3.cell? ⟨g, 7, none⟩ = some (.string p.data) := hb.cell 7
  clear hb
  have hh := HI3.out
  obtain ⟨A1, c1, A2, c2, hh⟩ := hh
  have k0 : w3.cell? ⟨a, 0, none⟩ = some (.pointer (some ⟨c, 0, none⟩)) := hh.blk.cell 0
  clear hh
  have s2 : w3.cell? ⟨c, 2, none⟩ = some (.int .i64 st) := by
    obtain ⟨A1, c1, A2, c2, hh⟩ := HI3.out
    have e : w3.cell? ⟨c, 2, none⟩ = some (.int .i64 (Cn.backs (Cn.heard x p) p 15 [7, 8]).1.state) := hh.conn.cell 2
    rw [Cn.backs_fst] at e
    rw [← HS.out]; exact e
  by_cases e1 : st = 7
  · subst e1
    go_wp2_with fail
    refine (tell_any HI3.out (by simp; omega) (Cn.sig 7 false Cn.no)).mono ?_
    rintro e w4 ⟨rfl, i4, t4⟩
    have HI4 := Lib.hid i4
    have HT4 : Hid (Touch (OfAct K1) _ w4) := HT3.out.trans t4 (fun _ _ e => e)
    clear i4 t4
    clear d0 d1 d2 d3 d4 d5 d6 d7 k0 s2
    go_wp2_with fail
    refine (stop_any HI4.out (by simp; omega) 8).mono ?_
    rintro e w5 ⟨rfl, i5, t5⟩
    have HI5 := Lib.hid i5
    have HT5 : Hid (Touch (OfAct K1) _ w5) := HT4.out.trans t5 (fun _ _ e => e)
    clear i5 t5
    have HX : Hid (InAct K (n + 3) w5 a c (Cn.recover x p) ∧ Touch (OfAct K) w w5) := by
      refine ⟨InAct.eq ((HI5.out.less HL.out).wide (by simp; try omega)) ?_, HP.out.trans (HT5.out.loose HL.out) (fun _ _ e => e)⟩
      unfold Cn.recover; rw [if_pos HS.out]
    clear HI5 HT5
    go_wp2
    first
      | (go_end0; exact ⟨rfl, HX.out⟩)
      | exact bodyPost_ret (results_none rfl _ _ _) rfl ⟨rfl, HX.out⟩
  have b1 : (st == 7) = false := by simpa using e1
  by_cases e2 : st = 10
  · subst e2
    go_wp2_with fail
    refine (tell_any HI3.out (by simp; omega) (Cn.sig 7 false Cn.no)).mono ?_
    rintro e w4 ⟨rfl, i4, t4⟩
    have HI4 := Lib.hid i4
    have HT4 : Hid (Touch (OfAct K1) _ w4) := HT3.out.trans t4 (fun _ _ e => e)
    clear i4 t4
    clear d0 d1 d2 d3 d4 d5 d6 d7 k0 s2
    go_wp2_with fail
    refine (to_any' HI4.out 9).mono ?_
    rintro e w5 ⟨rfl, i5, t5⟩
    have HI5 := Lib.hid i5
    have HT5 : Hid (Touch (OfAct K1) _ w5) := HT4.out.trans t5 (fun _ _ e => e)
    clear i5 t5
    have HX : Hid (InAct K (n + 3) w5 a c (Cn.recover x p) ∧ Touch (OfAct K) w w5) := by
      refine ⟨InAct.eq ((HI5.out.less HL.out).wide (by simp; try omega)) ?_, HP.out.trans (HT5.out.loose HL.out) (fun _ _ e => e)⟩
      unfold Cn.recover; rw [if_neg (by rw [HS.out]; decide), if_pos HS.out]
    clear HI5 HT5
    go_wp2
    first
      | (go_end0; exact ⟨rfl, HX.out⟩)
      | exact bodyPost_ret (results_none rfl _ _ _) rfl ⟨rfl, HX.out⟩
  have b2 : (st == 10) = false := by simpa using e2
  have E1 := Lib.hid e1
  have E2 := Lib.hid e2
  clear e1 e2
  have HX : Hid (InAct K (n + 3) w3 a c (Cn.recover x p) ∧ Touch (OfAct K) w w3) := by
    refine ⟨InAct.eq ((HI3.out.less HL.out).wide (by simp; try omega)) ?_, HP.out.trans (HT3.out.loose HL.out) (fun _ _ e => e)⟩
    unfold Cn.recover; rw [if_neg (by rw [HS.out]; exact E1.out), if_neg (by rw [HS.out]; exact E2.out)]
  clear HI3 HT3
  go_wp2
  first
    | (go_end0; exact ⟨rfl, HX.out⟩)
    | exact bodyPost_ret (results_none rfl _ _ _) rfl ⟨rfl, HX.out⟩
end Go.Proofs.YtipaobpmojahaaaGreat
