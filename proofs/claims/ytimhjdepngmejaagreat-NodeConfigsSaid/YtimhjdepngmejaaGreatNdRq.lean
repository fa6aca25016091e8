/-
  node.Node: an end without an epoch: a request of its connection. No conditions.
-/
import Derived.Test.YtimhjdepngmejaaGreatNdK
import Derived.Test.YtimhjdepngmejaaGreatEvC
import Derived.Deep.RegionHeld3
namespace Go.Proofs.YtimhjdepngmejaaGreat
open Go.RowKit
set_option maxRecDepth 20000

section
variable {w : World} {n cn pc un : Nat} {bu : Option Nat} {B : Option Addr} {cl : Nat} {st : Nd.S}
set_option maxHeartbeats 4000000 in
theorem nrequest_conn (h : NodeIn w n cn pc un bu none 0 B cl st) (hc : st.ctl = []) (hl : st.lacks = false) (k : Int) (hk : 1 ≤ k ∧ k ≤ 6) (d : ByteArray) (hd : d.size ≤ maxLen) (hok : Ev.ok k d 0) (hm : Ru.may st.conn.state k = true) {s' : Cn.S} {sg : List Cn.Sig} {u : Cn.Pd} {ms : Int} (hy : Cn.askS st.conn k d = (s', ⟨sg, [u], false, false, ms, 1⟩)) (he : Cn.askErr st.conn k d = 0) :
    Calls Tryz.prog 16 #[.pointer (some ⟨n, 0, none⟩), .agg #[.int .i64 k, .string d, .int .i64 0]] w fun e w' => ∃ A1 c1 A' ca', e = .returned (.tuple #[.slice A1 sg.length c1, .int .i64 0]) ∧ NodeIn w' n cn pc un bu A' ca' B cl { st with conn := s', ctl := [u], tm := Tm.start st.tm 0 st.c.cc } ∧ Touch (fun k => (k = n ∨ k = pc) ∨ k = cn) w w' ∧ ∀ ad, A' = some ad → w.heap.size ≤ ad.block := by
  have HH := Lib.hid h
  have HCK := Lib.hid (fun W => evcheck_ok k d 0 W hok)
  have HMY := Lib.hid (fun W => may_any st.conn.state k W)
  rw [hm] at HMY
  have HASK : Hid (∀ W, NodeIn W n cn pc un bu none 0 B cl st → Calls Tryz.prog 40 #[.pointer (some ⟨n, 0, none⟩), .agg #[.int .i64 k, .string d, .int .i64 0]] W fun e w' => ∃ A1 c1 A' ca', e = .returned (.tuple #[.slice A1 sg.length c1, .int .i64 0]) ∧ NodeIn w' n cn pc un bu A' ca' B cl { st with conn := s', ctl := [u], tm := Tm.start st.tm 0 st.c.cc } ∧ Touch (fun k => (k = n ∨ k = pc) ∨ k = cn) W w' ∧ ∀ ad, A' = some ad → W.heap.size ≤ ad.block) := fun W hW => nask_conn hW hc k hk d hd 0 hy he
  have HLK : Hid (st.lacks = false) := hl
  obtain ⟨vv, hvv⟩ : ∃ vv, vv = Value.agg #[.int .i64 st.conn.state, .int .i64 st.conn.sq, .int .i64 st.conn.peer, .int .i64 st.conn.cc, .int .u32 st.conn.ms] := ⟨_, rfl⟩
  have hfs : ∀ W, (Instr.field 74 vv 0).run Tryz.prog W = .ok (.int .i64 st.conn.state) W := fun W => by rw [hvv]; exact field_state _ _ _ _ _ W
  clear hm hy he hk hd hok hc hl
  obtain ⟨w0, hw0⟩ : ∃ w0, w0 = w.alloc (.cells #[.int .i64 k, .string d, .int .i64 0] 64) := ⟨_, rfl⟩
  have HF0 : Hid (Fresh w w0) := by rw [hw0]; exact (Touch.refl _ _).alloc _
  obtain ⟨b, hb⟩ : ∃ b, b = w.heap.size := ⟨_, rfl⟩
  have HB : Hid (Blk w0 b 64 [.int .i64 k, .string d, .int .i64 0]) := by rw [hw0, hb]; exact Blk.new w _ _
  have HH0 := Lib.hid (h.old HF0.out)
  have HKEEP : Hid (∀ wx, Fresh w0 wx → wx.cell? ⟨n, 11, none⟩ = some (.pointer (some ⟨cn, 0, none⟩)) ∧ wx.cell? ⟨b, 0, none⟩ = some (.int .i64 k) ∧ wx.cell? ⟨b, 1, none⟩ = some (.string d) ∧ wx.cell? ⟨b, 2, none⟩ = some (.int .i64 0)) := fun wx ht => ⟨(HH0.out.old ht).blk.cell 11, (ht.blk HB.out (fun e => e)).cell 0, (ht.blk HB.out (fun e => e)).cell 1, (ht.blk HB.out (fun e => e)).cell 2⟩
  clear h HB
  go_enter Tryz.func16, Tryz.ntmps16
  go_upto_region 1 with (fail)
  rw [← hw0, ← hb]
  clear hw0 hb
  obtain ⟨a0, a1, a2, a3⟩ := HKEEP.out w0 (Touch.refl _ _)
  go_wp2_with fail
  refine (HCK.out _).mono ?_
  rintro e w1 ⟨rfl, t1⟩
  have HT1 : Hid (Fresh w0 w1) := t1
  clear t1 HCK a0 a1 a2 a3
  simp only
  go_upto_region 4 with (fail)
  have HVA : Hid (∀ W, Fresh w0 W → Calls Tryz.prog 39 #[.pointer (some ⟨cn, 0, none⟩)] W fun e w' => e = .returned vv ∧ Fresh W w') := fun W hW => by rw [hvv]; exact vars_any (HH0.out.old hW).conn
  clear hvv
  go_cut [23] (fun v wx => v = .bool false ∧ Hid (Fresh w0 wx))
  case first =>
   as_aux_lemma =>
    go_region_held3 (fun wx => wx.cell? ⟨n, 11, none⟩ = some (.pointer (some ⟨cn, 0, none⟩)) ∧ wx.cell? ⟨b, 0, none⟩ = some (.int .i64 k) ∧ wx.cell? ⟨b, 1, none⟩ = some (.string d) ∧ wx.cell? ⟨b, 2, none⟩ = some (.int .i64 0))
      (with_reducible refine HKEEP.out _ ?_; repeat (first | with_reducible exact HT1.out | with_reducible exact HT3.out | with_reducible exact HT4.out | with_reducible refine Touch.drew ?_))
      (first
        | (go_simp; go_at_call 39; with_reducible refine (HVA.out _ HT1.out.drew).mono ?_; rintro e w3 ⟨rfl, t3⟩
           have HT3 : Hid (Fresh w0 w3) := HT1.out.drew.trans t3 (fun _ _ e => e)
           clear t3)
        | (go_simp; go_at_call 38; with_reducible refine (HMY.out _).mono ?_; rintro e w4 ⟨rfl, t4⟩
           have HT4 : Hid (Fresh w0 w4) := HT3.out.trans t4 (fun _ _ e => e)
           clear t4))
    all_goals
      go_wp2_with fail
      go_meet
      case rel => exact ⟨rfl, HT4⟩
  case rest =>
    obtain ⟨rfl, HT5⟩ := hcut
    generalize wc = w5 at *
    obtain ⟨a0, a1, a2, a3⟩ := HKEEP.out w5 HT5.out
    have HN5 := Lib.hid (HH0.out.old HT5.out)
    go_wp2_with fail
    refine (HASK.out _ HN5.out).mono ?_
    rintro e w6 ⟨A1, c1, A', ca', rfl, h6, t6, ha6⟩
    have HN6 := Lib.hid h6
    have HT6 : Hid (Touch (fun k => (k = n ∨ k = pc) ∨ k = cn) w w6) := (Touch.mono (HF0.out.trans HT5.out (fun _ _ e => e)) (fun _ _ e => e.elim)).trans t6 (fun _ _ e => e)
    have HA6 : Hid (∀ ad, A' = some ad → w.heap.size ≤ ad.block) := fun ad e => Nat.le_trans (Nat.le_trans HF0.out.size HT5.out.size) (ha6 ad e)
    clear h6 t6 ha6 a0 a1 a2 a3 HASK HMY HVA
    simp only
    have HCR := Lib.hid (ncredit0 HN6.out HLK.out A1 sg.length c1)
    go_wp2_with fail
    refine HCR.out.mono ?_
    rintro e w7 ⟨rfl, h7, t7⟩
    have HN7 := Lib.hid h7
    have HT7 : Hid (Touch (fun k => (k = n ∨ k = pc) ∨ k = cn) w w7) := HT6.out.trans t7 (fun _ _ e => .inl (.inl e))
    clear h7 t7 HCR
    simp only
    go_wp2
    exact bodyPost_ret (v := _) (by simp [results, Tryz.results16, go_sem]) rfl ⟨A1, c1, A', ca', rfl, HN7.out, HT7.out, HA6.out⟩
end
end Go.Proofs.YtimhjdepngmejaaGreat
