/-
  polliwoglaw16.awake: a fixed config's end asks, sends, and is quiet. No conditions.
-/
import Derived.Test.YtimhjdepngmejaaGreatNdSt
import Derived.Test.YtimhjdepngmejaaGreatNdRq
import Derived.Test.YtimhjdepngmejaaGreatNdQ
namespace Go.Proofs.YtimhjdepngmejaaGreat
open Go.RowKit
set_option maxRecDepth 20000

theorem awake16 (w : World) : Calls Tryz.prog 6 #[] w fun e w' => e = .returned (.bool true) ∧ Fresh w w' := by
  have hq : ∃ s' u ms, Cn.askS (Cn.new 2 4) 1 Cn.no = (s', ⟨[], [u], false, false, ms, 1⟩) ∧ u.kind = 1 ∧ u.sq = 1 ∧ u.n = 4 := ⟨_, _, _, rfl, rfl, rfl, rfl⟩
  obtain ⟨s', u, ms, hq, hu1, hu2, hu3⟩ := hq
  have HQ := Lib.hid hq
  have HE : Hid (Cn.askErr (Cn.new 2 4) 1 Cn.no = 0) := rfl
  have HM : Hid (Ru.may (Cn.new 2 4).state 1 = true) := rfl
  have HO : Hid (Ev.ok 1 Cn.no 0) := .inl ⟨.inl rfl, by decide, rfl⟩
  have HST := Lib.hid (fun W => nstart_any 2 4 4 2 9 0 none 0 [] W (Rd.nil _ _))
  clear hq
  go_enter Tryz.func6, Tryz.ntmps6
  go_wp2_with fail
  refine (HST.out _).mono ?_
  rintro e w1 ⟨n, c0, c1, c2, c3, c4, rfl, hg, h1⟩
  obtain ⟨cn, pc, un, hn1, l1, l2, l3, l4⟩ := h1.at_
  have F1 : Hid (Fresh w w1) := h1.fresh
  have HL : Hid (w.heap.size ≤ n ∧ w.heap.size ≤ cn ∧ w.heap.size ≤ pc) := ⟨l1, l2, l3⟩
  have HRQ := Lib.hid (nrequest_conn hn1 rfl rfl 1 (by decide) Cn.no (by decide) HO.out HM.out HQ.out HE.out)
  clear h1 l1 l2 l3 l4 hg HST
  simp only
  have hno : Cn.no = { data := #[] } := rfl
  rw [hno] at HRQ
  go_wp2_with fail
  refine HRQ.out.mono ?_
  rintro e w2 ⟨A1, d1, A2, d2, rfl, h2, t2, -⟩
  have N2 := Lib.hid h2
  have F2 : Hid (Fresh w w2) := F1.out.trans t2 (fun k hk e => by have := HL.out; rcases e with (e | e) | e <;> omega)
  clear h2 t2 HRQ F1 hn1
  simp only
  have HX1 := Lib.hid (nnext_ctl N2.out u [] rfl (by simp))
  go_wp2_with fail
  refine HX1.out.mono ?_
  rintro e w3 ⟨A3, d3, rfl, h3, t3, -⟩
  have hpu : pduV u = .agg #[.int .i64 1, .int .i64 1, .int .u32 4, .int .u32 u.ps, .int .u32 u.mr, .slice u.lA u.ln u.lc, .bool u.self, .string u.data] := by unfold pduV; rw [hu1, hu2, hu3]
  rw [hpu]
  clear hpu
  have N3 := Lib.hid h3
  have F3 : Hid (Fresh w w3) := F2.out.trans t3 (fun k hk e => by have := HL.out; omega)
  clear h3 t3 HX1 F2 N2
  simp only
  go_wp2_with fail
  obtain ⟨w4, hw4⟩ : ∃ w4, w4 = w3.alloc (.cells #[.int .i64 1, .int .i64 1, .int .u32 4, .int .u32 u.ps, .int .u32 u.mr, .slice u.lA u.ln u.lc, .bool u.self, .string u.data] 67) := ⟨_, rfl⟩
  obtain ⟨b, hb⟩ : ∃ b, b = w3.heap.size := ⟨_, rfl⟩
  have HB4 : Hid (Blk w4 b 67 [.int .i64 1, .int .i64 1, .int .u32 4, .int .u32 u.ps, .int .u32 u.mr, .slice u.lA u.ln u.lc, .bool u.self, .string u.data]) := by rw [hw4, hb]; exact Blk.new w3 _ _
  have G4 : Hid (Fresh w3 w4) := by rw [hw4]; exact (Touch.refl _ _).alloc _
  have N4 := Lib.hid (N3.out.old G4.out)
  have F4 : Hid (Fresh w w4) := F3.out.trans G4.out (fun _ _ e => e)
  rw [← hw4, ← hb]
  clear hw4 hb N3 F3 G4 hu1 hu2 hu3 HQ
  have HX2 := Lib.hid (nnext_none N4.out rfl rfl)
  refine HX2.out.mono ?_
  rintro e w5 ⟨rfl, h5, t5⟩
  have N5 := Lib.hid h5
  have F5 : Hid (Fresh w w5) := F4.out.trans t5 (fun _ _ e => e)
  have HB5 := Lib.hid (t5.blk HB4.out (fun e => e))
  clear h5 t5 HX2 F4 N4 HB4
  simp only
  go_upto_region 7 with (fail)
  obtain ⟨w6, hw6⟩ : ∃ w6, w6 = w5.alloc (.cells #[.int .i64 0, .int .i64 0, .int .u32 0, .int .u32 0, .int .u32 0, .slice none 0 0, .bool false, .string ByteArray.empty] 67) := ⟨_, rfl⟩
  have G6 : Hid (Fresh w5 w6) := by rw [hw6]; exact (Touch.refl _ _).alloc _
  have N6 := Lib.hid (N5.out.old G6.out)
  have F6 : Hid (Fresh w w6) := F5.out.trans G6.out (fun _ _ e => e)
  have HB6 := Lib.hid (G6.out.blk HB5.out (fun e => e))
  rw [← hw6]
  clear hw6 G6 N5 F5 HB5
  have k0 : w6.cell? ⟨b, 0, none⟩ = some (.int .i64 1) := HB6.out.cell 0
  have k1 : w6.cell? ⟨b, 1, none⟩ = some (.int .i64 1) := HB6.out.cell 1
  have k2 : w6.cell? ⟨b, 2, none⟩ = some (.int .u32 4) := HB6.out.cell 2
  have HQY := Lib.hid (nquiet_yes N6.out rfl rfl rfl rfl)
  go_wp2_with fail
  refine HQY.out.mono ?_
  rintro e w7 ⟨rfl, t7⟩
  have F7 : Hid (Fresh w w7) := F6.out.trans t7 (fun _ _ e => e)
  clear t7 HQY
  simp only
  go_wp2
  go_ret
  exact ⟨rfl, F7.out⟩
end Go.Proofs.YtimhjdepngmejaaGreat
