/-
  polliwogtop.PolliwogWhole: the walk.
-/
import Derived.Test.YtpifgpmjnjbecaaDoorWhO
import Derived.Test.YtpifgpmjnjbecaaDoorWireZ
import Derived.Test.YtpifgpmjnjbecaaDoorOwn6b
import Derived.Deep.RegionLaw
namespace Go.Proofs.YtpifgpmjnjbecaaDoor
open Go.RowKit

theorem tab_zero : Tryd.zeroCells27.size = Wh.TAB.toArray.size := by kernel_rfl
theorem tab_rows : (Tryd.prog.info? 27).map (·.size) = some Wh.TAB.toArray.size := infoTab
set_option maxRecDepth 10000 in
set_option maxHeartbeats 4000000 in
theorem whole_core (W : World) (A : Option Addr) (c : Nat) (l : List WU) (user : Int) (hr : Rd wuE W A c l) (hg : ∀ a ∈ l, WuGood W a) (u0 : 0 ≤ user) (u1 : user ≤ 255) :
    Calls Tryd.prog 3 #[.slice A l.length c, .int .u8 user] W fun e w' => e = .returned (.bool true) ∧ Fresh W w' := by
  have HR := Lib.hid hr
  have HG := Lib.hid hg
  have hm := hr.1
  have hm2 := hr.2.1
  unfold maxLen at hm2
  clear hr hg
  obtain ⟨T, hT⟩ : ∃ T, T = Wh.TAB := ⟨_, rfl⟩
  have HMK : Hid (∀ w, Calls Tryd.prog 5 #[] w fun e w' => e = .returned (.agg T.toArray) ∧ Fresh w w') := by
    rw [hT]
    exact make_any
  have HI : Hid ((Tryd.prog.info? 27).map (·.size) = some T.toArray.size) := by
    rw [hT]
    exact tab_rows
  have HO : Hid (T.toArray.all (·.oneCell') = true) := by
    rw [hT]
    exact tab_one
  have HTB : Hid (∀ w g t, Blk w g t T → Wh.Tab w g) := by
    rw [hT]
    exact fun w g t h => ⟨t, h⟩
  have HZS : Hid (Tryd.zeroCells27.size = T.toArray.size) := by
    rw [hT]
    exact tab_zero
  clear hT
  go_enter Tryd.func3, Tryd.ntmps3
  go_upto_region 1 with (fail)
  refine wp_region_lit ?_
  refine wpList_enter (F := 4) (args := #[]) rfl (by unfold execOp; go_simp) (wnew_any W) ?_
  rintro e w1 ⟨gw, rfl, ht1, f1⟩
  refine ⟨_, rfl, ?_⟩
  refine wpList_enter (F := 5) (args := #[]) rfl (by unfold execOp; go_simp) (HMK.out w1) ?_
  rintro e w2 ⟨rfl, f2⟩
  refine ⟨_, rfl, ?_⟩
  refine wpList_val (w' := w2.alloc (.cells Tryd.zeroCells27 27)) (v := .pointer (some ⟨w2.heap.size, 0, none⟩)) rfl (by unfold execOp; go_simp) ?_
  refine wpList_val (w' := w2.alloc (.cells Tryd.zeroCells27 27)) (v := .pointer (some ⟨gw, 0, none⟩)) rfl (by unfold execOp; go_simp) ?_
  have HZ0 : Hid (Blk (w2.alloc (.cells Tryd.zeroCells27 27)) w2.heap.size 27 Tryd.zeroCells27.toList) := Blk.new w2 _ _
  obtain ⟨gt, hgt⟩ : ∃ gt, gt = w2.heap.size := ⟨_, rfl⟩
  rw [← hgt] at HZ0 ⊢
  have HNT : Hid (W.heap.size ≤ gt) := by
    have a := f1.size
    have b := f2.size
    show _ ≤ _
    omega
  have HF3 : Hid (Fresh W (w2.alloc (.cells Tryd.zeroCells27 27))) := (f1.trans f2 (fun _ _ e => e)).alloc _
  have HW3 : Hid (Wh.Tab (w2.alloc (.cells Tryd.zeroCells27 27)) gw) := (ht1.fresh f2).fresh ((Touch.refl _ _).alloc _)
  have HNE : Hid (gw ≠ gt) := by
    have := (ht1.fresh f2).lt
    show _ ≠ _
    omega
  clear f1 f2 ht1 hgt
  generalize (w2.alloc (.cells Tryd.zeroCells27 27)) = w3 at *
  have HBT : Hid (Blk (w3.setRow gt T.toArray) gt 27 T) := setRow_heap w3 gt _ _ _ _ HZ0.out
  have HTT : Hid (Touch (· = gt) w3 (w3.setRow gt T.toArray)) := ⟨rfl, rfl, rfl, by simp, fun k _ hk => setRow_other w3 gt k _ hk⟩
  refine wpList_store_row rfl 27 (.tmp 6) (.tmp 22) rfl gt T.toArray (by rfl) (by rfl) 27 Tryd.zeroCells27 HZ0.out HI.out HZS.out HO.out ?_
  have HF4 : Hid (Fresh W (w3.setRow gt T.toArray)) := HF3.out.trans HTT.out (fun k hk e => by have := HNT.out; have e : k = gt := e; omega)
  have HW4 : Hid (Wh.Tab (w3.setRow gt T.toArray) gw) := by
    obtain ⟨t, h⟩ := HW3.out
    exact ⟨t, HTT.out.blk h (fun e => HNE.out e)⟩
  have HT4 : Hid (Wh.Tab (w3.setRow gt T.toArray) gt) := HTB.out _ _ _ HBT.out
  clear HZS HZ0 HF3 HW3 HBT HTT HTB HI HO HMK HNT HNE
  generalize (w3.setRow gt T.toArray) = w4 at *
  go_wp2_with fail
  go_loopw [7] (fun v wx => ∃ k : Nat, k ≤ l.length ∧ k ≤ 12 ∧ v = .int .i64 k ∧ Hid (Fresh W wx) ∧ Hid (Wh.Tab wx gw) ∧ Hid (Wh.Tab wx gt)) (fun v _ => l.length - (intOf v).toNat)
  case atStart => exact ⟨0, Nat.zero_le _, by omega, rfl, HF4, HW4, HT4⟩
  case round =>
    clear HF4 HW4 HT4
    obtain ⟨k, hk, hk2, rfl, HF, HW, HT⟩ := hrel
    by_cases hlt : k < l.length ∧ k < 12
    · as_aux_lemma =>
      have ht1 : decide ((k : Int) < (l.length : Int)) = true := decide_eq_true (by omega)
      have ht2 : decide ((k : Int) < 12) = true := decide_eq_true (by omega)
      obtain ⟨ua, hua⟩ : ∃ ua, ua = l[k]'hlt.1 := ⟨_, rfl⟩
      have HUG : Hid (WuGood W ua) := by
        rw [hua]
        exact HG.out _ (List.getElem_mem hlt.1)
      obtain ⟨g, o, hA, hgl, hc⟩ := (Rd.touch HR.out HF.out (fun _ _ _ e => e)).at_ k hlt.1
      rw [← hua] at hc
      clear hua
      obtain ⟨⟨kind, sq, n, ps, mr, ll, self, data⟩, Ak, ck⟩ := ua
      have c0 : wr.cell? ⟨g, o + k * 8, none⟩ = some (.int .i64 kind) := hc 0 _ rfl
      have c1 : wr.cell? ⟨g, o + k * 8 + 1, none⟩ = some (.int .i64 sq) := hc 1 _ rfl
      have c2 : wr.cell? ⟨g, o + k * 8 + 2, none⟩ = some (.int .i64 n) := hc 2 _ rfl
      have c3 : wr.cell? ⟨g, o + k * 8 + 3, none⟩ = some (.int .i64 ps) := hc 3 _ rfl
      have c4 : wr.cell? ⟨g, o + k * 8 + 4, none⟩ = some (.int .i64 mr) := hc 4 _ rfl
      have c5 : wr.cell? ⟨g, o + k * 8 + 5, none⟩ = some (.slice Ak ll.length ck) := hc 5 _ rfl
      have c6 : wr.cell? ⟨g, o + k * 8 + 6, none⟩ = some (.bool self) := hc 6 _ rfl
      have c7 : wr.cell? ⟨g, o + k * 8 + 7, none⟩ = some (.string data) := hc 7 _ rfl
      subst hA
      obtain ⟨hurd, hui, hul, hud⟩ := HUG.out
      simp only at hurd hui hul hud
      have hwf : ∀ x : Int, (Lit.int .i64 x).wf = true → -9223372036854775808 ≤ x ∧ x ≤ 9223372036854775807 := by
        intro x h
        simpa [Lit.wf, IntKind.min, IntKind.max, IntKind.bits, IntKind.signed] using h
      obtain ⟨f, hf⟩ : ∃ f, f = Wh.few ⟨kind, sq, n, ps, mr, ll, self, data⟩ := ⟨_, rfl⟩
      obtain ⟨q, hq⟩ : ∃ q, q = Wh.own f := ⟨_, rfl⟩
      have HFEW : Hid (∀ w, Fresh W w → Calls Tryd.prog 7 #[.agg #[.int .i64 kind, .int .i64 sq, .int .i64 n, .int .i64 ps, .int .i64 mr, .slice Ak ll.length ck, .bool self, .string data]] w fun e w' => ∃ A' c', e = .returned (rV f A' c') ∧ Fresh w w' ∧ Rd intE w' A' c' f.l) := fun w h => by
        rw [hf]
        refine (few6_any ⟨kind, sq, n, ps, mr, ll, self, data⟩ Ak ck w (Rd.touch hurd h (fun _ _ _ e => e)) (by unfold maxLen at hud; show data.size ≤ _; omega) (fun x hx => hwf x (hui x (by simp at hx ⊢; omega))) (fun x hx => hwf x (hul x hx))).mono ?_
        rintro e w' ⟨A', c', he, hm⟩
        exact ⟨A', c', he, hm.fresh, hm.sl.rd⟩
      have HOWN : Hid (∀ A' c' w, Rd intE w A' c' f.l → Calls Tryd.prog 6 #[rV f A' c'] w fun e w' => ∃ A' c', e = .returned (pV q A' c') ∧ Fresh w w' ∧ Rd numE w' A' c' q.l) := fun A' c' w h => by
        have hcl : ∀ x : Int, 0 ≤ Wh.cl x ∧ Wh.cl x ≤ 4294967295 := by
          intro x
          unfold Wh.cl
          omega
        rw [hq]
        refine (own6_any f A' c' w h (fun x hx => ?_) (fun x hx => ?_) ?_).mono ?_
        · rw [hf] at hx
          simp only [Wh.few, List.mem_cons, List.mem_nil_iff, or_false] at hx
          have h1 := hcl n
          have h2 := hcl ps
          have h3 := hcl mr
          rcases hx with rfl | rfl | rfl <;> omega
        · rw [hf] at hx
          simp only [Wh.few, List.mem_map] at hx
          obtain ⟨y, _, rfl⟩ := hx
          have := hcl y
          omega
        · rw [hf]
          simp only [Wh.few, List.length_map, List.length_take]
          omega
        · rintro e w' ⟨A', c', he, hm⟩
          exact ⟨A', c', he, hm.fresh, hm.sl.rd⟩
      have HQD : Hid (q.data.size ≤ 9223372036854775807) := by
        show _ ≤ _
        rw [hq, hf]
        show (Wh.cut data).size ≤ _
        unfold Wh.cut
        unfold maxLen at hud
        split
        · rw [ByteArray.size_extract]
          omega
        · omega
      clear hq hf hwf hurd hui hul hud HUG hc hgl HR HG
      obtain ⟨z, hz⟩ : ∃ z, z = Wh.ck q := ⟨_, rfl⟩
      have HCK : Hid (∀ A c w, Rd numE w A c q.l → Calls Tryd.prog 9 #[pV q A c] w fun e w' => e = .returned (.int .i64 z) ∧ Fresh w w') := fun A c w h => by
        rw [hz]
        exact check6_any q A c w h HQD.out
      by_cases hz0 : z = 0
      · subst hz0
        have hck : Wh.ck q = 0 := hz.symm
        have HBL := Wh.bytes_len q hck
        obtain ⟨BY, hBY⟩ : ∃ BY, BY = Wh.B (Wh.bytesS (Wh.shape q.kind) q) := ⟨_, rfl⟩
        obtain ⟨FR, hFR⟩ : ∃ FR, FR = Wh.B (Wh.frameL 0 (Wh.bytesS (Wh.shape q.kind) q)) := ⟨_, rfl⟩
        obtain ⟨FX, hFX⟩ : ∃ FX, FX = Wh.B (Wh.frameL user (Wh.bytesS (Wh.shape q.kind) q)) := ⟨_, rfl⟩
        have HPK : Hid (∀ A c w, Rd numE w A c q.l → Wh.Tab w gw → Calls Tryd.prog 8 #[.pointer (some ⟨gw, 0, none⟩), pV q A c] w fun e w' => e = .returned (.tuple #[.string FR, .int .i64 0]) ∧ Fresh w w') := fun A c w h t => by
          rw [hFR]
          exact pack6_ok gw q A c w h t hck
        have HBY : Hid (∀ A c w, Rd numE w A c q.l → Calls Tryd.prog 10 #[pV q A c] w fun e w' => e = .returned (.string BY) ∧ Fresh w w') := fun A c w h => by
          rw [hBY]
          exact bytes6_any q A c w h hck
        have HFB : Hid (∀ w, Wh.Tab w gt → Calls Tryd.prog 11 #[.agg #[.int .u8 0, .string BY], .pointer (some ⟨gt, 0, none⟩)] w fun e w' => e = .returned (.tuple #[.string FR, .int .i64 0]) ∧ Fresh w w') := fun w t => by
          rw [hBY, hFR]
          exact fbytes_any gt 0 _ w t (by omega) (by omega) HBL
        have HFU : Hid (∀ w, Wh.Tab w gt → Calls Tryd.prog 11 #[.agg #[.int .u8 user, .string BY], .pointer (some ⟨gt, 0, none⟩)] w fun e w' => e = .returned (.tuple #[.string FX, .int .i64 0]) ∧ Fresh w w') := fun w t => by
          rw [hBY, hFX]
          exact fbytes_any gt user _ w t u0 u1 HBL
        have HFP : Hid (∀ w, Wh.Tab w gt → Calls Tryd.prog 12 #[.pointer (some ⟨gt, 0, none⟩), .string FR] w fun e w' => e = .returned (.tuple #[.agg #[.int .u8 0, .string BY], .int .i64 0]) ∧ Fresh w w') := fun w t => by
          rw [hBY, hFR]
          exact fparse_any gt 0 _ w t (by omega) (by omega) HBL
        have HPP : Hid (∀ w, Calls Tryd.prog 13 #[.string BY] w fun e w' => ∃ A' c', e = .returned (.tuple #[pV q A' c', .int .i64 0]) ∧ Fresh w w' ∧ Rd numE w' A' c' q.l) := fun w => by
          rw [hBY]
          exact parse6_any q none 0 w hck
        have HSO : Hid (∀ w, Wh.Tab w gw → Calls Tryd.prog 15 #[.pointer (some ⟨gw, 0, none⟩), .string FX] w fun e w' => e = .returned (.bool true) ∧ Fresh w w') := fun w t => by
          rw [hFX]
          exact sound6_any gw user _ w t HBL
        have HOP0 : Hid (user = 0 → ∀ w, Wh.Tab w gw → Calls Tryd.prog 14 #[.pointer (some ⟨gw, 0, none⟩), .string FX] w fun e w' => ∃ A' c', e = .returned (.tuple #[pV q A' c', .int .i64 0]) ∧ Fresh w w') := fun h w t => by
          rw [hFX, h]
          exact open6_ok gw q w t hck
        have HOP1 : Hid (user ≠ 0 → ∀ w, Wh.Tab w gw → Calls Tryd.prog 14 #[.pointer (some ⟨gw, 0, none⟩), .string FX] w fun e w' => ∃ v, e = .returned (.tuple #[v, .int .i64 3]) ∧ v = .agg #[.int .i64 0, .int .i64 0, .int .u32 0, .int .u32 0, .int .u32 0, .slice none 0 0, .bool false, .string ⟨#[]⟩] ∧ Fresh w w') := fun h w t => by
          rw [hFX]
          exact open6_no gw user _ w t (by omega) u1 HBL
        clear hBY hFR hFX hz hck HBL HQD
        obtain ⟨qk, qs, qn, qp, qm, ql, qf, qd⟩ := q
        unfold pV at *
        simp only at HOWN HCK HPK HBY HPP HOP0
        go_upto_region 8 with (first
          | (go_at_call 7; refine (HFEW.out _ HF.out).mono ?_; rintro e w5 ⟨A5, c5', rfl, f5, r5⟩)
          | (go_at_call 6; refine (HOWN.out _ _ _ r5).mono ?_; rintro e w6 ⟨A6, c6', rfl, f6, r6⟩))
        have HFA : Hid (Fresh W w6) := (HF.out.trans f5 (fun _ _ e => e)).trans f6 (fun _ _ e => e)
        have HWA : Hid (Wh.Tab w6 gw) := (HW.out.fresh f5).fresh f6
        have HTA : Hid (Wh.Tab w6 gt) := (HT.out.fresh f5).fresh f6
        clear HFEW HOWN HF HW HT f5 r5 f6 c0 c1 c2 c3 c4 c5 c6 c7
        have HB7 : Hid (Blk (w6.alloc (.cells #[.int .i64 qk, .int .i64 qs, .int .u32 qn, .int .u32 qp, .int .u32 qm, .slice A6 ql.length c6', .bool qf, .string qd] 32)) w6.heap.size 32 [.int .i64 qk, .int .i64 qs, .int .u32 qn, .int .u32 qp, .int .u32 qm, .slice A6 ql.length c6', .bool qf, .string qd]) := Blk.new _ _ _
        have HF7 : Hid (Fresh W (w6.alloc (.cells #[.int .i64 qk, .int .i64 qs, .int .u32 qn, .int .u32 qp, .int .u32 qm, .slice A6 ql.length c6', .bool qf, .string qd] 32))) := HFA.out.alloc _
        have HW7 : Hid (Wh.Tab (w6.alloc (.cells #[.int .i64 qk, .int .i64 qs, .int .u32 qn, .int .u32 qp, .int .u32 qm, .slice A6 ql.length c6', .bool qf, .string qd] 32)) gw) := HWA.out.fresh ((Touch.refl _ _).alloc _)
        have HT7 : Hid (Wh.Tab (w6.alloc (.cells #[.int .i64 qk, .int .i64 qs, .int .u32 qn, .int .u32 qp, .int .u32 qm, .slice A6 ql.length c6', .bool qf, .string qd] 32)) gt) := HTA.out.fresh ((Touch.refl _ _).alloc _)
        have HR7 : Hid (Rd numE (w6.alloc (.cells #[.int .i64 qk, .int .i64 qs, .int .u32 qn, .int .u32 qp, .int .u32 qm, .slice A6 ql.length c6', .bool qf, .string qd] 32)) A6 c6' ql) := Rd.touch r6 ((Touch.refl _ _).alloc _ : Fresh w6 (w6.alloc (.cells #[.int .i64 qk, .int .i64 qs, .int .u32 qn, .int .u32 qp, .int .u32 qm, .slice A6 ql.length c6', .bool qf, .string qd] 32))) (fun _ _ _ e => e)
        clear HFA HWA HTA r6
        generalize (w6.alloc (.cells #[.int .i64 qk, .int .i64 qs, .int .u32 qn, .int .u32 qp, .int .u32 qm, .slice A6 ql.length c6', .bool qf, .string qd] 32)) = w7 at *
        obtain ⟨b8, hb8⟩ : ∃ b8, b8 = w6.heap.size := ⟨_, rfl⟩
        rw [← hb8] at HB7 ⊢
        clear hb8
        have HC8 : Hid (∀ w, Fresh w7 w → w.cell? ⟨b8, 0, none⟩ = some (.int .i64 qk) ∧ w.cell? ⟨b8, 1, none⟩ = some (.int .i64 qs) ∧ w.cell? ⟨b8, 2, none⟩ = some (.int .u32 qn) ∧ w.cell? ⟨b8, 3, none⟩ = some (.int .u32 qp) ∧ w.cell? ⟨b8, 4, none⟩ = some (.int .u32 qm) ∧ w.cell? ⟨b8, 5, none⟩ = some (.slice A6 ql.length c6') ∧ w.cell? ⟨b8, 6, none⟩ = some (.bool qf) ∧ w.cell? ⟨b8, 7, none⟩ = some (.string qd)) := fun w f => by
          have h := f.blk HB7.out (fun e => e)
          exact ⟨h.cell 0, h.cell 1, h.cell 2, h.cell 3, h.cell 4, h.cell 5, h.cell 6, h.cell 7⟩
        have HRR : Hid (∀ w, Fresh w7 w → Rd numE w A6 c6' ql) := fun w f => Rd.touch HR7.out f (fun _ _ _ e => e)
        obtain ⟨d0, d1, d2, d3, d4, d5, d6, d7⟩ := HC8.out w7 (Touch.refl _ _)
        go_upto_region 9 with (go_at_call 8; (with_reducible refine (HPK.out _ _ _ HR7.out HW7.out).mono ?_); rintro e w8 ⟨rfl, f8⟩)
        have F8 := Lib.hid f8
        clear f8 d0 d1 d2 d3 d4 d5 d6 d7 HPK
        obtain ⟨d0, d1, d2, d3, d4, d5, d6, d7⟩ := HC8.out w8 F8.out
        go_upto_region 12 with (go_at_call 9; (with_reducible refine (HCK.out _ _ _ (HRR.out _ F8.out)).mono ?_); rintro e w9 ⟨rfl, f9⟩)
        have F9 : Hid (Fresh w7 w9) := F8.out.trans f9 (fun _ _ e => e)
        clear f9 F8 d0 d1 d2 d3 d4 d5 d6 d7 HCK
        obtain ⟨d0, d1, d2, d3, d4, d5, d6, d7⟩ := HC8.out w9 F9.out
        go_upto_region 13 with (first
          | (go_at_call 10; (with_reducible refine (HBY.out _ _ _ (HRR.out _ F9.out)).mono ?_); rintro e w10 ⟨rfl, f10⟩)
          | (go_at_call 11; (with_reducible refine (HFB.out _ ((HT7.out.fresh F9.out).fresh f10)).mono ?_); rintro e w11 ⟨rfl, f11⟩))
        have F11 : Hid (Fresh w7 w11) := (F9.out.trans f10 (fun _ _ e => e)).trans f11 (fun _ _ e => e)
        clear f10 f11 F9 d0 d1 d2 d3 d4 d5 d6 d7 HFB
        go_upto_region 14 with (go_at_call 12; (with_reducible refine (HFP.out _ (HT7.out.fresh F11.out)).mono ?_); rintro e w12 ⟨rfl, f12⟩)
        have HBF : Hid (Blk (w12.alloc (.cells #[.int .u8 0, .string BY] 44)) w12.heap.size 44 [.int .u8 0, .string BY]) := Blk.new _ _ _
        have F13 : Hid (Fresh w7 (w12.alloc (.cells #[.int .u8 0, .string BY] 44))) := (F11.out.trans f12 (fun _ _ e => e)).alloc _
        clear f12 F11 HFP
        generalize (w12.alloc (.cells #[.int .u8 0, .string BY] 44)) = w13 at *
        obtain ⟨bf, hbf⟩ : ∃ bf, bf = w12.heap.size := ⟨_, rfl⟩
        rw [← hbf] at HBF ⊢
        clear hbf
        have e1 : w13.cell? ⟨bf, 1, none⟩ = some (.string BY) := HBF.out.cell 1
        go_upto_region 15 with (go_at_call 13; (with_reducible refine (HPP.out _).mono ?_); rintro e w14 ⟨A14, c14, rfl, f14, r14⟩)
        have HB15 : Hid (Blk (w14.alloc (.cells #[.int .i64 qk, .int .i64 qs, .int .u32 qn, .int .u32 qp, .int .u32 qm, .slice A14 ql.length c14, .bool qf, .string qd] 32)) w14.heap.size 32 [.int .i64 qk, .int .i64 qs, .int .u32 qn, .int .u32 qp, .int .u32 qm, .slice A14 ql.length c14, .bool qf, .string qd]) := Blk.new _ _ _
        have HBF5 : Hid (Blk (w14.alloc (.cells #[.int .i64 qk, .int .i64 qs, .int .u32 qn, .int .u32 qp, .int .u32 qm, .slice A14 ql.length c14, .bool qf, .string qd] 32)) bf 44 [.int .u8 0, .string BY]) := (f14.blk HBF.out (fun e => e)).alloc _
        have F15 : Hid (Fresh w7 (w14.alloc (.cells #[.int .i64 qk, .int .i64 qs, .int .u32 qn, .int .u32 qp, .int .u32 qm, .slice A14 ql.length c14, .bool qf, .string qd] 32))) := (F13.out.trans f14 (fun _ _ e => e)).alloc _
        have HR15 : Hid (Rd numE (w14.alloc (.cells #[.int .i64 qk, .int .i64 qs, .int .u32 qn, .int .u32 qp, .int .u32 qm, .slice A14 ql.length c14, .bool qf, .string qd] 32)) A14 c14 ql) := Rd.touch r14 ((Touch.refl _ _).alloc _ : Fresh w14 (w14.alloc (.cells #[.int .i64 qk, .int .i64 qs, .int .u32 qn, .int .u32 qp, .int .u32 qm, .slice A14 ql.length c14, .bool qf, .string qd] 32))) (fun _ _ _ e => e)
        clear HPP f14 r14 F13 HBF e1
        generalize (w14.alloc (.cells #[.int .i64 qk, .int .i64 qs, .int .u32 qn, .int .u32 qp, .int .u32 qm, .slice A14 ql.length c14, .bool qf, .string qd] 32)) = w15 at *
        obtain ⟨b15, hb15⟩ : ∃ b15, b15 = w14.heap.size := ⟨_, rfl⟩
        rw [← hb15] at HB15 ⊢
        clear hb15
        have HS15 : Hid (∀ w, Fresh w15 w → w.cell? ⟨b15, 0, none⟩ = some (.int .i64 qk) ∧ w.cell? ⟨b15, 1, none⟩ = some (.int .i64 qs) ∧ w.cell? ⟨b15, 2, none⟩ = some (.int .u32 qn) ∧ w.cell? ⟨b15, 3, none⟩ = some (.int .u32 qp) ∧ w.cell? ⟨b15, 4, none⟩ = some (.int .u32 qm) ∧ w.cell? ⟨b15, 5, none⟩ = some (.slice A14 ql.length c14) ∧ w.cell? ⟨b15, 6, none⟩ = some (.bool qf) ∧ w.cell? ⟨b15, 7, none⟩ = some (.string qd) ∧ w.cell? ⟨b8, 0, none⟩ = some (.int .i64 qk) ∧ w.cell? ⟨b8, 1, none⟩ = some (.int .i64 qs) ∧ w.cell? ⟨b8, 2, none⟩ = some (.int .u32 qn) ∧ w.cell? ⟨b8, 3, none⟩ = some (.int .u32 qp) ∧ w.cell? ⟨b8, 4, none⟩ = some (.int .u32 qm) ∧ w.cell? ⟨b8, 5, none⟩ = some (.slice A6 ql.length c6') ∧ w.cell? ⟨b8, 6, none⟩ = some (.bool qf) ∧ w.cell? ⟨b8, 7, none⟩ = some (.string qd) ∧ w.cell? ⟨bf, 0, none⟩ = some (.int .u8 0)) := fun w f => by
          have h := f.blk HB15.out (fun e => e)
          obtain ⟨a0, a1, a2, a3, a4, a5, a6, a7⟩ := HC8.out w (F15.out.trans f (fun _ _ e => e))
          exact ⟨h.cell 0, h.cell 1, h.cell 2, h.cell 3, h.cell 4, h.cell 5, h.cell 6, h.cell 7, a0, a1, a2, a3, a4, a5, a6, a7, (f.blk HBF5.out (fun e => e)).cell 0⟩
        have HR15b : Hid (∀ w, Fresh w15 w → Rd numE w A14 c14 ql) := fun w f => Rd.touch HR15.out f (fun _ _ _ e => e)
        have HRRb : Hid (∀ w, Fresh w15 w → Rd numE w A6 c6' ql) := fun w f => HRR.out w (F15.out.trans f (fun _ _ e => e))
        have FD : Fresh w15 w15.drew := (Touch.refl _ _).drew
        go_region_held3 (fun w => w.cell? ⟨b15, 0, none⟩ = some (.int .i64 qk) ∧ w.cell? ⟨b15, 1, none⟩ = some (.int .i64 qs) ∧ w.cell? ⟨b15, 2, none⟩ = some (.int .u32 qn) ∧ w.cell? ⟨b15, 3, none⟩ = some (.int .u32 qp) ∧ w.cell? ⟨b15, 4, none⟩ = some (.int .u32 qm) ∧ w.cell? ⟨b15, 5, none⟩ = some (.slice A14 ql.length c14) ∧ w.cell? ⟨b15, 6, none⟩ = some (.bool qf) ∧ w.cell? ⟨b15, 7, none⟩ = some (.string qd) ∧ w.cell? ⟨b8, 0, none⟩ = some (.int .i64 qk) ∧ w.cell? ⟨b8, 1, none⟩ = some (.int .i64 qs) ∧ w.cell? ⟨b8, 2, none⟩ = some (.int .u32 qn) ∧ w.cell? ⟨b8, 3, none⟩ = some (.int .u32 qp) ∧ w.cell? ⟨b8, 4, none⟩ = some (.int .u32 qm) ∧ w.cell? ⟨b8, 5, none⟩ = some (.slice A6 ql.length c6') ∧ w.cell? ⟨b8, 6, none⟩ = some (.bool qf) ∧ w.cell? ⟨b8, 7, none⟩ = some (.string qd) ∧ w.cell? ⟨bf, 0, none⟩ = some (.int .u8 0))
          (first
            | assumption
            | exact HS15.out _ (by assumption))
          (first
            | (go_simp; go_at_call 10; (with_reducible refine (HBY.out A14 c14 _ (HR15b.out _ (by assumption))).mono ?_); rintro e w16 ⟨rfl, f16⟩; have F16 : Fresh w15 w16 := FD.trans f16 (fun _ _ e => e))
            | (go_simp; go_at_call 10; (with_reducible refine (HBY.out A6 c6' _ (HRRb.out _ (by assumption))).mono ?_); rintro e w17 ⟨rfl, f17⟩; have F17 : Fresh w15 w17 := F16.trans f17 (fun _ _ e => e)))
        have FH := Lib.hid F17
        have hH17 := HS15.out w17 F17
        obtain ⟨-, -, -, -, -, -, -, -, d0, d1, d2, d3, d4, d5, d6, d7, -⟩ := hH17
        clear f16 F16 f17 FD
        go_upto_region 18 with (first
          | (go_at_call 10; (with_reducible refine (HBY.out _ _ _ (HRRb.out _ F17)).mono ?_); rintro e w18 ⟨rfl, f18⟩)
          | (go_at_call 11; (with_reducible refine (HFU.out _ ((HT7.out.fresh F15.out).fresh (F17.trans f18 (fun _ _ e => e)))).mono ?_); rintro e w19 ⟨rfl, f19⟩))
        have F19 : Hid (Fresh w7 w19) := (F15.out.trans (FH.out.trans f18 (fun _ _ e => e)) (fun _ _ e => e)).trans f19 (fun _ _ e => e)
        clear d0 d1 d2 d3 d4 d5 d6 d7 f18 f19 F17 FH HS15 HR15b HRRb HRR HBY HFU HB15 HBF5 HR15 HC8 HB7 HR7
        by_cases hu : user = 0
        · have HOP : Hid (∀ w, Wh.Tab w gw → Calls Tryd.prog 14 #[.pointer (some ⟨gw, 0, none⟩), .string FX] w fun e w' => ∃ A' c', e = .returned (.tuple #[.agg #[.int .i64 qk, .int .i64 qs, .int .u32 qn, .int .u32 qp, .int .u32 qm, .slice A' ql.length c', .bool qf, .string qd], .int .i64 0]) ∧ Fresh w w') := HOP0.out hu
          clear HOP0 HOP1
          have hu1 : (user == 0) = true := by simpa using hu
          clear hu
          go_upto_region 19 with (go_at_call 14; (with_reducible refine (HOP.out _ (HW7.out.fresh F19.out)).mono ?_); rintro e w20 ⟨A20, c20, rfl, f20⟩)
          have F20 : Hid (Fresh w7 w20) := F19.out.trans f20 (fun _ _ e => e)
          clear f20 HOP
          go_wp2_with (go_at_call 15; (with_reducible refine (HSO.out _ (HW7.out.fresh (F20.out.alloc _))).mono ?_); rintro e w21 ⟨rfl, f21⟩)
          have F21 : Hid (Fresh w7 w21) := (F20.out.alloc _).trans f21 (fun _ _ e => e)
          clear f21
          go_roundw
          case rel => exact ⟨k + 1, by omega, by omega, by go_num, HF7.out.trans F21.out (fun _ _ e => e), HW7.out.fresh F21.out, HT7.out.fresh F21.out⟩
          case measure => simp [intOf]; omega
        · have HOP : Hid (∀ w, Wh.Tab w gw → Calls Tryd.prog 14 #[.pointer (some ⟨gw, 0, none⟩), .string FX] w fun e w' => e = .returned (.tuple #[.agg #[.int .i64 0, .int .i64 0, .int .u32 0, .int .u32 0, .int .u32 0, .slice none 0 0, .bool false, .string ⟨#[]⟩], .int .i64 3]) ∧ Fresh w w') := fun w t => (HOP1.out hu w t).mono (by rintro e w' ⟨v, h1, h2, h3⟩; subst h2; exact ⟨h1, h3⟩)
          clear HOP0 HOP1
          have hu1 : (user == 0) = false := by simpa using hu
          clear hu
          go_upto_region 19 with (go_at_call 14; (with_reducible refine (HOP.out _ (HW7.out.fresh F19.out)).mono ?_); rintro e w20 ⟨rfl, f20⟩)
          have F20 : Hid (Fresh w7 w20) := F19.out.trans f20 (fun _ _ e => e)
          clear f20 HOP
          go_wp2_with (go_at_call 15; (with_reducible refine (HSO.out _ (HW7.out.fresh (F20.out.alloc _))).mono ?_); rintro e w21 ⟨rfl, f21⟩)
          have F21 : Hid (Fresh w7 w21) := (F20.out.alloc _).trans f21 (fun _ _ e => e)
          clear f21
          go_roundw
          case rel => exact ⟨k + 1, by omega, by omega, by go_num, HF7.out.trans F21.out (fun _ _ e => e), HW7.out.fresh F21.out, HT7.out.fresh F21.out⟩
          case measure => simp [intOf]; omega
      · have HPK : Hid (∀ A c w, Rd numE w A c q.l → Wh.Tab w gw → Calls Tryd.prog 8 #[.pointer (some ⟨gw, 0, none⟩), pV q A c] w fun e w' => e = .returned (.tuple #[.string ⟨#[]⟩, .int .i64 z]) ∧ Fresh w w') := fun A c w h t => by
          rw [hz]
          exact pack6_no gw q A c w h HQD.out (by rw [← hz]; exact hz0)
        have hz1 : (z == 0) = false := by simpa using hz0
        have hz2 : (z != 0) = true := by simpa using hz0
        clear hz hz0 HQD
        obtain ⟨qk, qs, qn, qp, qm, ql, qf, qd⟩ := q
        unfold pV at *
        simp only at HOWN HCK HPK
        go_upto_region 8 with (first
          | (go_at_call 7; refine (HFEW.out _ HF.out).mono ?_; rintro e w5 ⟨A5, c5', rfl, f5, r5⟩)
          | (go_at_call 6; refine (HOWN.out _ _ _ r5).mono ?_; rintro e w6 ⟨A6, c6', rfl, f6, r6⟩))
        have HFA : Hid (Fresh W w6) := (HF.out.trans f5 (fun _ _ e => e)).trans f6 (fun _ _ e => e)
        have HWA : Hid (Wh.Tab w6 gw) := (HW.out.fresh f5).fresh f6
        have HTA : Hid (Wh.Tab w6 gt) := (HT.out.fresh f5).fresh f6
        clear HFEW HOWN HF HW HT f5 r5 f6 c0 c1 c2 c3 c4 c5 c6 c7
        have HB7 : Hid (Blk (w6.alloc (.cells #[.int .i64 qk, .int .i64 qs, .int .u32 qn, .int .u32 qp, .int .u32 qm, .slice A6 ql.length c6', .bool qf, .string qd] 32)) w6.heap.size 32 [.int .i64 qk, .int .i64 qs, .int .u32 qn, .int .u32 qp, .int .u32 qm, .slice A6 ql.length c6', .bool qf, .string qd]) := Blk.new _ _ _
        have HF7 : Hid (Fresh W (w6.alloc (.cells #[.int .i64 qk, .int .i64 qs, .int .u32 qn, .int .u32 qp, .int .u32 qm, .slice A6 ql.length c6', .bool qf, .string qd] 32))) := HFA.out.alloc _
        have HW7 : Hid (Wh.Tab (w6.alloc (.cells #[.int .i64 qk, .int .i64 qs, .int .u32 qn, .int .u32 qp, .int .u32 qm, .slice A6 ql.length c6', .bool qf, .string qd] 32)) gw) := HWA.out.fresh ((Touch.refl _ _).alloc _)
        have HT7 : Hid (Wh.Tab (w6.alloc (.cells #[.int .i64 qk, .int .i64 qs, .int .u32 qn, .int .u32 qp, .int .u32 qm, .slice A6 ql.length c6', .bool qf, .string qd] 32)) gt) := HTA.out.fresh ((Touch.refl _ _).alloc _)
        have HR7 : Hid (Rd numE (w6.alloc (.cells #[.int .i64 qk, .int .i64 qs, .int .u32 qn, .int .u32 qp, .int .u32 qm, .slice A6 ql.length c6', .bool qf, .string qd] 32)) A6 c6' ql) := Rd.touch r6 ((Touch.refl _ _).alloc _ : Fresh w6 (w6.alloc (.cells #[.int .i64 qk, .int .i64 qs, .int .u32 qn, .int .u32 qp, .int .u32 qm, .slice A6 ql.length c6', .bool qf, .string qd] 32))) (fun _ _ _ e => e)
        clear HFA HWA HTA r6
        generalize (w6.alloc (.cells #[.int .i64 qk, .int .i64 qs, .int .u32 qn, .int .u32 qp, .int .u32 qm, .slice A6 ql.length c6', .bool qf, .string qd] 32)) = w7 at *
        obtain ⟨b8, hb8⟩ : ∃ b8, b8 = w6.heap.size := ⟨_, rfl⟩
        rw [← hb8] at HB7 ⊢
        clear hb8
        have HC8 : Hid (∀ w, Fresh w7 w → w.cell? ⟨b8, 0, none⟩ = some (.int .i64 qk) ∧ w.cell? ⟨b8, 1, none⟩ = some (.int .i64 qs) ∧ w.cell? ⟨b8, 2, none⟩ = some (.int .u32 qn) ∧ w.cell? ⟨b8, 3, none⟩ = some (.int .u32 qp) ∧ w.cell? ⟨b8, 4, none⟩ = some (.int .u32 qm) ∧ w.cell? ⟨b8, 5, none⟩ = some (.slice A6 ql.length c6') ∧ w.cell? ⟨b8, 6, none⟩ = some (.bool qf) ∧ w.cell? ⟨b8, 7, none⟩ = some (.string qd)) := fun w f => by
          have h := f.blk HB7.out (fun e => e)
          exact ⟨h.cell 0, h.cell 1, h.cell 2, h.cell 3, h.cell 4, h.cell 5, h.cell 6, h.cell 7⟩
        have HRR : Hid (∀ w, Fresh w7 w → Rd numE w A6 c6' ql) := fun w f => Rd.touch HR7.out f (fun _ _ _ e => e)
        obtain ⟨d0, d1, d2, d3, d4, d5, d6, d7⟩ := HC8.out w7 (Touch.refl _ _)
        go_upto_region 9 with (go_at_call 8; (with_reducible refine (HPK.out _ _ _ HR7.out HW7.out).mono ?_); rintro e w8 ⟨rfl, f8⟩)
        have F8 := Lib.hid f8
        clear f8 d0 d1 d2 d3 d4 d5 d6 d7 HPK
        obtain ⟨d0, d1, d2, d3, d4, d5, d6, d7⟩ := HC8.out w8 F8.out
        go_wp2_with (go_at_call 9; (with_reducible refine (HCK.out _ _ _ (HRR.out _ F8.out)).mono ?_); rintro e w9 ⟨rfl, f9⟩)
        have F9 : Hid (Fresh w7 w9) := F8.out.trans f9 (fun _ _ e => e)
        go_roundw
        case rel => exact ⟨k + 1, by omega, by omega, by go_num, HF7.out.trans F9.out (fun _ _ e => e), HW7.out.fresh F9.out, HT7.out.fresh F9.out⟩
        case measure => simp [intOf]; omega
    · as_aux_lemma =>
      rcases (show ((k < l.length) ∧ ¬ k < 12) ∨ ¬ k < l.length by omega) with h | h
      · have ht1 : decide ((k : Int) < (l.length : Int)) = true := decide_eq_true (by omega)
        have ht2 : decide ((k : Int) < 12) = false := decide_eq_false (by omega)
        as_aux_lemma =>
        go_wp2_with (go_at_call 16; refine (size6_any wr).mono ?_; rintro e w5 ⟨rfl, f5⟩)
        exact bodyPost_ret (v := .bool true) (by simp [results, Tryd.results3, go_sem]) rfl ⟨rfl, HF.out.trans f5 (fun _ _ e => e)⟩
      · have ht1 : decide ((k : Int) < (l.length : Int)) = false := decide_eq_false (by omega)
        as_aux_lemma =>
        go_wp2_with (go_at_call 16; refine (size6_any wr).mono ?_; rintro e w5 ⟨rfl, f5⟩)
        exact bodyPost_ret (v := .bool true) (by simp [results, Tryd.results3, go_sem]) rfl ⟨rfl, HF.out.trans f5 (fun _ _ e => e)⟩
end Go.Proofs.YtpifgpmjnjbecaaDoor
