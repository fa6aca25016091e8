/-
  polliwoglaw14: pair.give at the first end: what a call of it brings is put behind what is on its way, and what was told.
-/
import Derived.Test.YtkmegkjkbalooaaGi
namespace Go.Proofs.Ytkmegkjkbalooaa
open Go.RowKit Go.Shelf

set_option maxHeartbeats 4000000 in
set_option maxRecDepth 100000 in
theorem give0 {w : World} {gc g0 g1 : Nat} {cs cs' : List Value} {A A' A1 A2 : Option Addr} {c c' c1 c2 : Nat} {l us : List Cn.Pd} {l' sg : List Cn.Sig} (be en : Bool) (ms t : Int)
    (h0 : Blk w g0 39 cs) (h1 : Blk w g1 38 cs') (hx : cs[1]? = some (.slice A l.length c)) (hx' : cs'[0]? = some (.slice A' l'.length c')) (hl : Sl pduE w A c l) (hl' : Sl sigE w A' c' l') (hs : Sl sigE w A1 c1 sg) (hu : Sl pduE w A2 c2 us)
    (hm : l.length + us.length ≤ 1000000) (hm' : l'.length + sg.length ≤ 1000000) :
    Calls Try.prog 9 #[.agg #[.slice (some ⟨gc, 0, none⟩) 2 2, .slice (some ⟨g0, 0, none⟩) 2 2, .slice (some ⟨g1, 0, none⟩) 2 2], .int .i64 0, .agg #[.slice A1 sg.length c1, .slice A2 us.length c2, .bool be, .bool en, .int .u32 ms, .int .i64 t]] w
      fun e w' => e = .returned (.tuple #[]) ∧ GivePost w g0 g1 cs cs' 0 1 l us l' sg w' := by
  have HF : Hid (Fresh w ((w.alloc (.cells #[.slice (some ⟨gc, 0, none⟩) 2 2, .slice (some ⟨g0, 0, none⟩) 2 2, .slice (some ⟨g1, 0, none⟩) 2 2] 35)).alloc (.cells #[.slice A1 sg.length c1, .slice A2 us.length c2, .bool be, .bool en, .int .u32 ms, .int .i64 t] 41))) := ((Touch.refl _ w).alloc _).alloc _
  have HP : Hid (Blk ((w.alloc (.cells #[.slice (some ⟨gc, 0, none⟩) 2 2, .slice (some ⟨g0, 0, none⟩) 2 2, .slice (some ⟨g1, 0, none⟩) 2 2] 35)).alloc (.cells #[.slice A1 sg.length c1, .slice A2 us.length c2, .bool be, .bool en, .int .u32 ms, .int .i64 t] 41)) w.heap.size 35 [.slice (some ⟨gc, 0, none⟩) 2 2, .slice (some ⟨g0, 0, none⟩) 2 2, .slice (some ⟨g1, 0, none⟩) 2 2]) := (Blk.new w _ _).alloc _
  have HQ : Hid (Blk ((w.alloc (.cells #[.slice (some ⟨gc, 0, none⟩) 2 2, .slice (some ⟨g0, 0, none⟩) 2 2, .slice (some ⟨g1, 0, none⟩) 2 2] 35)).alloc (.cells #[.slice A1 sg.length c1, .slice A2 us.length c2, .bool be, .bool en, .int .u32 ms, .int .i64 t] 41)) (w.heap.size + 1) 41 [.slice A1 sg.length c1, .slice A2 us.length c2, .bool be, .bool en, .int .u32 ms, .int .i64 t]) := by
    have := Blk.new (w.alloc (.cells #[.slice (some ⟨gc, 0, none⟩) 2 2, .slice (some ⟨g0, 0, none⟩) 2 2, .slice (some ⟨g1, 0, none⟩) 2 2] 35)) 41 [.slice A1 sg.length c1, .slice A2 us.length c2, .bool be, .bool en, .int .u32 ms, .int .i64 t]
    simpa [Hid] using this
  have HZ : Hid (g0 < w.heap.size ∧ g1 < w.heap.size) := ⟨h0.lt, h1.lt⟩
  have H0 := Lib.hid h0
  have H1 := Lib.hid h1
  have HX := Lib.hid hx
  have HX' := Lib.hid hx'
  have HL := Lib.hid hl
  have HL' := Lib.hid hl'
  have HS := Lib.hid hs
  have HU := Lib.hid hu
  have HM := Lib.hid hm
  have HM' := Lib.hid hm'
  clear h0 h1 hx hx' hl hl' hs hu hm hm'
  go_enter Try.func9, Try.ntmps9
  go_upto_region 1 with (fail)
  generalize ((w.alloc (.cells #[.slice (some ⟨gc, 0, none⟩) 2 2, .slice (some ⟨g0, 0, none⟩) 2 2, .slice (some ⟨g1, 0, none⟩) 2 2] 35)).alloc (.cells #[.slice A1 sg.length c1, .slice A2 us.length c2, .bool be, .bool en, .int .u32 ms, .int .i64 t] 41)) = W at *
  have hbq : w.heap.size + 1 < W.heap.size := HQ.out.lt
  have HBW : Hid (w.heap.size + 1 < W.heap.size) := hbq
  clear hbq
  generalize w.heap.size + 1 = br at *
  generalize w.heap.size = bp at *
  have hwr0 : IntKind.i64.wrap 0 = 0 := by decide
  have hwr1 : IntKind.i64.wrap 1 = 1 := by decide
  have HB0 : Hid (Blk W g0 39 cs) := HF.out.blk H0.out (fun e => e)
  have HB1 : Hid (Blk W g1 38 cs') := HF.out.blk H1.out (fun e => e)
  have HLW : Hid (Sl pduE W A c l) := HL.out.touch HF.out (fun _ _ e => e)
  have HUW : Hid (Sl pduE W A2 c2 us) := HU.out.touch HF.out (fun _ _ e => e)
  have HLW' : Hid (Sl sigE W A' c' l') := HL'.out.touch HF.out (fun _ _ e => e)
  have HSW : Hid (Sl sigE W A1 c1 sg) := HS.out.touch HF.out (fun _ _ e => e)
  have HK : Hid (∀ wx, Fresh W wx → wx.cell? ⟨bp, 1, none⟩ = some (.slice (some ⟨g0, 0, none⟩) 2 2) ∧ wx.cell? ⟨br, 1, none⟩ = some (.slice A2 us.length c2) ∧ wx.cell? ⟨g0, 1, none⟩ = some (.slice A l.length c) ∧ wx.frozen? ⟨g0, 1, none⟩ = false) := fun wx ht => ⟨(ht.blk HP.out (fun e => e)).cell 1, (ht.blk HQ.out (fun e => e)).cell 1, ((ht.blk HB0.out (fun e => e)).cell 1).trans HX.out, (ht.blk HB0.out (fun e => e)).frozen 1⟩
  obtain ⟨p0, p1, p2, p3⟩ := HK.out W (Touch.refl _ _)
  have q0 : ∀ o, (W.alloc o).cell? ⟨bp, 1, none⟩ = some (.slice (some ⟨g0, 0, none⟩) 2 2) := fun o => (HK.out _ ((Touch.refl _ _).alloc o)).1
  have q1 : ∀ o, (W.alloc o).cell? ⟨br, 1, none⟩ = some (.slice A2 us.length c2) := fun o => (HK.out _ ((Touch.refl _ _).alloc o)).2.1
  have q2 : ∀ o, (W.alloc o).cell? ⟨g0, 1, none⟩ = some (.slice A l.length c) := fun o => (HK.out _ ((Touch.refl _ _).alloc o)).2.2.1
  go_cut [] (fun wx => ∃ A3 c3, Hid (Blk wx g0 39 (cs.set 1 (.slice A3 (l ++ us).length c3))) ∧ Hid (Sl pduE wx A3 c3 (l ++ us)) ∧ Hid (Touch (· = g0) W wx))
  case first =>
    clear HLW' HSW
    go_region_law (first
      | (refine stp_pdu rfl rfl (l := []) (l2 := l) rfl rfl (by exact Sl.lit pduE W _ (by simp) #[] [] rfl 0 rfl (by decide)) (by exact (HLW.out.alloc _).rd) (by simp; have := HM.out; omega) ?_
         intro A3 c3 L3 w3 hL3 hs3 ht3 hA3
         have F3 : Hid (Fresh W w3) := Touch.trans (by repeat (first | exact Touch.refl _ _ | refine Touch.drew ?_ | refine Touch.alloc ?_ _)) ht3 (fun k hk e => by simp at e; omega)
         have N3 : Hid (∀ ad, A3 = some ad → W.heap.size ≤ ad.block) := by intro ad e; subst e; simp at hA3; rcases hA3 with e | e <;> omega
         have S3 : Hid (Sl pduE w3 A3 c3 L3) := hs3
         have E3 : Hid (L3 = l) := hL3.out.trans (List.nil_append l)
         obtain ⟨r0, r1, r2, r3⟩ := HK.out w3 F3.out
         clear hL3 hs3 ht3 hA3)
      | (refine stp_pdu rfl rfl (l := L3) (l2 := us) rfl rfl (by exact S3.out) (by exact (HUW.out.touch F3.out (fun _ _ e => e)).rd) (by have := HM.out; rw [E3.out]; omega) ?_
         intro A4 c4 L4 w4 hL4 hs4 ht4 hA4
         have F4 : Hid (Fresh W w4) := Touch.trans F3.out ht4 (fun k hk e => by
           cases A3 with
           | none => cases e
           | some ad => have := N3.out ad rfl; simp at e; omega)
         have S4 : Hid (Sl pduE w4 A4 c4 (l ++ us)) := by have h := hs4; rw [hL4.out, E3.out] at h; exact h
         have E4 : Hid (L4 = l ++ us) := by unfold Hid; rw [hL4.out, E3.out]
         obtain ⟨x0, x1, x2, x3⟩ := HK.out w4 F4.out
         clear hL4 hs4 ht4 hA4))
    all_goals
      go_wp2_with fail
      go_meet
      case rel =>
        rw [E4.out]
        exact ⟨_, _, (F4.out.blk HB0.out (fun e => e)).set _ _, S4.out.setCell (S4.out.blk_ne (F4.out.blk HB0.out (fun e => e)) (by decide)) _, (F4.out.mono fun _ _ e => e.elim).st rfl⟩
  case rest =>
    obtain ⟨B3, d3, HB3, HS3, HT3⟩ := hcut
    have HK2 : Hid (∀ wx, Fresh wc wx → wx.cell? ⟨bp, 2, none⟩ = some (.slice (some ⟨g1, 0, none⟩) 2 2) ∧ wx.cell? ⟨br, 0, none⟩ = some (.slice A1 sg.length c1) ∧ wx.cell? ⟨g1, 0, none⟩ = some (.slice A' l'.length c') ∧ wx.frozen? ⟨g1, 0, none⟩ = false) := fun wx ht =>
      have np : bp ≠ g0 := HP.out.ne_ HB0.out (by decide)
      have nr : br ≠ g0 := HQ.out.ne_ HB0.out (by decide)
      have n1 : g1 ≠ g0 := HB1.out.ne_ HB0.out (by decide)
      have b1 := ht.blk (HT3.out.blk HB1.out n1) (fun e => e)
      ⟨(ht.blk (HT3.out.blk HP.out np) (fun e => e)).cell 2, (ht.blk (HT3.out.blk HQ.out nr) (fun e => e)).cell 0, (b1.cell 0).trans HX'.out, b1.frozen 0⟩
    have HLW2 : Hid (Sl sigE wc A' c' l') := HLW'.out.touch HT3.out (HLW'.out.blk_ne HB0.out (by decide))
    have HSW2 : Hid (Sl sigE wc A1 c1 sg) := HSW.out.touch HT3.out (HSW.out.blk_ne HB0.out (by decide))
    have HB1c : Hid (Blk wc g1 38 cs') := HT3.out.blk HB1.out (HB1.out.ne_ HB0.out (by decide))
    have HTW : Hid (Touch (fun k => k = g0 ∨ k = g1) w wc) := (HF.out.mono fun _ _ e => e.elim).trans HT3.out (fun _ _ e => .inl e)
    clear p0 p1 p2 p3 q0 q1 q2 HK HF HP HQ HB0 HB1 H0 H1 HX HX' HL HL' HS HU HLW HUW HLW' HSW HT3
    obtain ⟨p0, p1, p2, p3⟩ := HK2.out wc (Touch.refl _ _)
    have q0 : ∀ o, (wc.alloc o).cell? ⟨bp, 2, none⟩ = some (.slice (some ⟨g1, 0, none⟩) 2 2) := fun o => (HK2.out _ ((Touch.refl _ _).alloc o)).1
    have q1 : ∀ o, (wc.alloc o).cell? ⟨br, 0, none⟩ = some (.slice A1 sg.length c1) := fun o => (HK2.out _ ((Touch.refl _ _).alloc o)).2.1
    have q2 : ∀ o, (wc.alloc o).cell? ⟨g1, 0, none⟩ = some (.slice A' l'.length c') := fun o => (HK2.out _ ((Touch.refl _ _).alloc o)).2.2.1
    go_wp2_with fail
    go_region_law (first
      | (refine stp_sig rfl rfl (l := []) (l2 := l') rfl rfl (by exact Sl.lit sigE wc _ (by simp) #[] [] rfl 0 rfl (by decide)) (by exact (HLW2.out.alloc _).rd) (by simp; have := HM'.out; omega) ?_
         intro A3 c3 L3 w3 hL3 hs3 ht3 hA3
         have F3 : Hid (Fresh wc w3) := Touch.trans (by repeat (first | exact Touch.refl _ _ | refine Touch.drew ?_ | refine Touch.alloc ?_ _)) ht3 (fun k hk e => by simp at e; omega)
         have N3 : Hid (∀ ad, A3 = some ad → wc.heap.size ≤ ad.block) := by intro ad e; subst e; simp at hA3; rcases hA3 with e | e <;> omega
         have S3 : Hid (Sl sigE w3 A3 c3 L3) := hs3
         have E3 : Hid (L3 = l') := hL3.out.trans (List.nil_append l')
         obtain ⟨r0, r1, r2, r3⟩ := HK2.out w3 F3.out
         clear hL3 hs3 ht3 hA3)
      | (refine stp_sig rfl rfl (l := L3) (l2 := sg) rfl rfl (by exact S3.out) (by exact (HSW2.out.touch F3.out (fun _ _ e => e)).rd) (by have := HM'.out; rw [E3.out]; omega) ?_
         intro A4 c4 L4 w4 hL4 hs4 ht4 hA4
         have F4 : Hid (Fresh wc w4) := Touch.trans F3.out ht4 (fun k hk e => by
           cases A3 with
           | none => cases e
           | some ad => have := N3.out ad rfl; simp at e; omega)
         have S4 : Hid (Sl sigE w4 A4 c4 (l' ++ sg)) := by have h := hs4; rw [hL4.out, E3.out] at h; exact h
         have E4 : Hid (L4 = l' ++ sg) := by unfold Hid; rw [hL4.out, E3.out]
         obtain ⟨x0, x1, x2, x3⟩ := HK2.out w4 F4.out
         clear hL4 hs4 ht4 hA4))
    all_goals
      go_wp2
      go_end0
      rw [E4.out]
      have b1 := F4.out.blk HB1c.out (fun e => e)
      have b0 := F4.out.blk HB3.out (fun e => e)
      exact ⟨rfl, ⟨_, _, _, _, b0.far (b0.ne_ b1 (by decide)) _, b1.set _ _, (HS3.out.touch F4.out (fun _ _ e => e)).setCell ((HS3.out.touch F4.out (fun _ _ e => e)).blk_ne b1 (by decide)) _, S4.out.setCell (S4.out.blk_ne b1 (by decide)) _⟩, (HTW.out.trans F4.out (fun _ _ e => e.elim)).st (.inr rfl)⟩

end Go.Proofs.Ytkmegkjkbalooaa
