/-
  node.Node: an end without an epoch asks its connection. No conditions.
-/
import Derived.Test.YtimhjdepngmejaaGreatNdG
import Derived.Deep.RegionHeld3
namespace Go.Proofs.YtimhjdepngmejaaGreat
open Go.RowKit
set_option maxRecDepth 20000

section
variable {w : World} {n cn pc un : Nat} {bu : Option Nat} {B : Option Addr} {cl : Nat} {st : Nd.S}
set_option maxHeartbeats 8000000 in
theorem nask_conn (h : NodeIn w n cn pc un bu none 0 B cl st) (hc : st.ctl = []) (k : Int) (hk : 1 ≤ k ∧ k ≤ 6) (d : ByteArray) (hd : d.size ≤ maxLen) (x : Int) {s' : Cn.S} {sg : List Cn.Sig} {u : Cn.Pd} {ms : Int} (hy : Cn.askS st.conn k d = (s', ⟨sg, [u], false, false, ms, 1⟩)) (he : Cn.askErr st.conn k d = 0) :
    Calls Tryz.prog 40 #[.pointer (some ⟨n, 0, none⟩), .agg #[.int .i64 k, .string d, .int .i64 x]] w fun e w' => ∃ A1 c1 A' ca', e = .returned (.tuple #[.slice A1 sg.length c1, .int .i64 0]) ∧ NodeIn w' n cn pc un bu A' ca' B cl { st with conn := s', ctl := [u], tm := Tm.start st.tm 0 st.c.cc } ∧ Touch (fun k => (k = n ∨ k = pc) ∨ k = cn) w w' ∧ ∀ ad, A' = some ad → w.heap.size ≤ ad.block := by
  have HH := Lib.hid h
  have hlt := h.blk.lt
  obtain ⟨w0, hw0⟩ : ∃ w0, w0 = w.alloc (.cells #[.int .i64 k, .string d, .int .i64 x] 64) := ⟨_, rfl⟩
  have HF0 : Hid (Fresh w w0) := by rw [hw0]; exact (Touch.refl _ _).alloc _
  obtain ⟨b, hb⟩ : ∃ b, b = w.heap.size := ⟨_, rfl⟩
  have HB : Hid (Blk w0 b 64 [.int .i64 k, .string d, .int .i64 x]) := by rw [hw0, hb]; exact Blk.new w _ _
  have HH0 := Lib.hid (h.old HF0.out)
  have b0 : w0.cell? ⟨b, 0, none⟩ = some (.int .i64 k) := HB.out.cell 0
  have b1 : w0.cell? ⟨b, 1, none⟩ = some (.string d) := HB.out.cell 1
  have c11 : w0.cell? ⟨n, 11, none⟩ = some (.pointer (some ⟨cn, 0, none⟩)) := HH0.out.blk.cell 11
  have HKEEP : Hid (∀ wx, Touch (· = cn) w0 wx → wx.cell? ⟨n, 11, none⟩ = some (.pointer (some ⟨cn, 0, none⟩)) ∧ wx.cell? ⟨b, 0, none⟩ = some (.int .i64 k) ∧ wx.cell? ⟨b, 1, none⟩ = some (.string d)) := fun wx ht => ⟨(ht.blk HH0.out.blk (Blk.ne_ HH0.out.blk HH0.out.conn (by decide))).cell 11, (ht.blk HB.out (Blk.ne_ HB.out HH0.out.conn (by decide))).cell 0, (ht.blk HB.out (Blk.ne_ HB.out HH0.out.conn (by decide))).cell 1⟩
  have HRQ : Hid (∀ W, Fresh w0 W → Calls Tryz.prog 75 #[.pointer (some ⟨cn, 0, none⟩), .int .i64 k, .string d] W fun e w3 => ∃ A1 c1 A2 c2, e = .returned (.tuple #[.agg #[.slice A1 sg.length c1, .slice A2 1 c2, .bool false, .bool false, .int .u32 ms, .int .i64 1], .int .i64 0]) ∧ Hid (NodeIn w3 n cn pc un bu none 0 B cl { st with conn := s' }) ∧ Hid (Sl pduE w3 A2 c2 [u]) ∧ Hid (Touch (· = cn) w0 w3) ∧ Hid (Touch (· = cn) W w3)) := by
    intro W hW
    have HD : NodeIn W n cn pc un bu none 0 B cl st := HH0.out.old hW
    refine (crequest_any HD.conn HD.cok k d hd).mono ?_
    rintro e w3 ⟨v, rfl, hp⟩
    rw [he]
    obtain ⟨A1, c1, A2, c2, rfl, p1, p2, p3, p4, p5, p6, p7⟩ := hp.ex hy rfl rfl
    exact ⟨A1, c1, A2, c2, rfl, HD.conned p1 p2 p7, p4, (Touch.mono hW (fun _ _ e => e.elim)).trans p7 (fun _ _ e => e), p7⟩
  have HCN : Hid (¬ w0.heap.size = cn) := by have := Blk.lt HH0.out.conn; unfold Hid; omega
  have k7 : ¬ k = 7 := by omega
  have k8 : ¬ k = 8 := by omega
  have k9 : ¬ k = 9 := by omega
  have k10 : ¬ k = 10 := by omega
  have k11 : ¬ k = 11 := by omega
  have e7 : (k == 7) = false := by simp [k7]
  have e8 : (k == 8) = false := by simp [k8]
  have e9 : (k == 9) = false := by simp [k9]
  have e10 : (k == 10) = false := by simp [k10]
  have e11 : (k == 11) = false := by simp [k11]
  clear h k7 k8 k9 k10 k11
  go_enter Tryz.func40, Tryz.ntmps40
  go_upto_region 1 with (fail)
  rw [← hw0, ← hb]
  clear hw0 hb
  go_upto_region 2 with (fail)
  go_cut [10, 11] (fun v10 v11 wx => ∃ (bb : Nat) (A1 : Option Addr) (c1 : Nat) (A2 : Option Addr) (c2 : Nat), v10 = .pointer (some ⟨bb, 0, none⟩) ∧ v11 = .int .i64 0 ∧ Hid (Blk wx bb 163 [.slice A1 sg.length c1, .slice A2 1 c2, .bool false, .bool false, .int .u32 ms, .int .i64 1]) ∧ Hid (NodeIn wx n cn pc un bu none 0 B cl { st with conn := s' }) ∧ Hid (Sl pduE wx A2 c2 [u]) ∧ Hid (Touch (fun k => k = cn ∨ k = w0.heap.size) w0 wx))
  case first =>
   as_aux_lemma =>
    go_region_held3 (fun wx => wx.cell? ⟨n, 11, none⟩ = some (.pointer (some ⟨cn, 0, none⟩)) ∧ wx.cell? ⟨b, 0, none⟩ = some (.int .i64 k) ∧ wx.cell? ⟨b, 1, none⟩ = some (.string d))
      (with_reducible refine HKEEP.out _ ?_; repeat (first | with_reducible exact Touch.refl _ _ | with_reducible exact HT3.out | with_reducible refine Touch.drew ?_ | with_reducible refine Touch.alloc ?_ _ | with_reducible refine Touch.setCell ?_ (fun hh => absurd hh (Nat.lt_irrefl _)) _ | with_reducible refine Touch.setCell ?_ (fun hh => absurd hh (Nat.not_lt.2 HT3.out.size)) _))
      (first
        | (go_simp; go_at_call 75; with_reducible refine (HRQ.out _ (by repeat (first | with_reducible exact Touch.refl _ _ | with_reducible refine Touch.drew ?_ | with_reducible refine Touch.alloc ?_ _))).mono ?_; rintro e w3 ⟨A1, c1, A2, c2, rfl, HN3, HS3, HT3, HW3⟩
           try (
              have HZ3 : Hid (Blk w3 w0.heap.size 163 [.slice none 0 0, .slice none 0 0, .bool false, .bool false, .int .u32 0, .int .i64 0]) := HW3.out.blk (by first | with_reducible exact Blk.new w0 _ _ | with_reducible exact Blk.drew (Blk.new w0 _ _) | exact Blk.new w0.drew _ _) HCN.out
              have z0 : w3.cell? ⟨w0.heap.size, 0, none⟩ = some (.slice none 0 0) := HZ3.out.cell 0
              have z1 : w3.cell? ⟨w0.heap.size, 1, none⟩ = some (.slice none 0 0) := HZ3.out.cell 1
              have z2 : w3.cell? ⟨w0.heap.size, 2, none⟩ = some (.bool false) := HZ3.out.cell 2
              have z3 : w3.cell? ⟨w0.heap.size, 3, none⟩ = some (.bool false) := HZ3.out.cell 3
              have z4 : w3.cell? ⟨w0.heap.size, 4, none⟩ = some (.int .u32 0) := HZ3.out.cell 4
              have z5 : w3.cell? ⟨w0.heap.size, 5, none⟩ = some (.int .i64 0) := HZ3.out.cell 5
              have q0 := HZ3.out.frozen 0
              have q1 := HZ3.out.frozen 1
              have q2 := HZ3.out.frozen 2
              have q3 := HZ3.out.frozen 3
              have q4 := HZ3.out.frozen 4
              have q5 := HZ3.out.frozen 5)))
    · go_wp2_with fail
      go_meet
      case rel => exact ⟨w3.heap.size, A1, c1, A2, c2, rfl, rfl, Blk.new w3 _ _, HN3.out.old ((Touch.refl _ _).alloc _), HS3.out.alloc _, (Touch.mono HT3.out (fun _ _ e => .inl e)).alloc _⟩
    · go_wp2_with fail
      go_meet
      case rel =>
        have ht : Touch (· = w0.heap.size) w3 ((((((w3.setCell ⟨w0.heap.size, 0, none⟩ (.slice A1 sg.length c1)).setCell ⟨w0.heap.size, 1, none⟩ (.slice A2 1 c2)).setCell ⟨w0.heap.size, 2, none⟩ (.bool false)).setCell ⟨w0.heap.size, 3, none⟩ (.bool false)).setCell ⟨w0.heap.size, 4, none⟩ (.int .u32 ms)).setCell ⟨w0.heap.size, 5, none⟩ (.int .i64 1)) := by
          repeat (first | with_reducible exact Touch.refl _ _ | with_reducible refine Touch.st ?_ rfl)
        exact ⟨w0.heap.size, A1, c1, A2, c2, rfl, rfl, (((((HZ3.out.set 0 _).set 1 _).set 2 _).set 3 _).set 4 _).set 5 _, HN3.out.far HZ3.out ht (by decide) (by decide) (by decide) (by decide) (by decide) (by decide), HS3.out.touch ht (HS3.out.blk_ne HZ3.out (by decide)), (Touch.mono HT3.out (fun _ _ e => .inl e)).trans ht (fun _ _ e => .inr e)⟩
  case rest =>
    obtain ⟨bb, A1, c1, A2, c2, rfl, rfl, HB4, HN4, HS4, HT4⟩ := hcut
    generalize wc = w4 at *
    have z0 : w4.cell? ⟨bb, 0, none⟩ = some (.slice A1 sg.length c1) := HB4.out.cell 0
    have z1 : w4.cell? ⟨bb, 1, none⟩ = some (.slice A2 1 c2) := HB4.out.cell 1
    have z2 : w4.cell? ⟨bb, 2, none⟩ = some (.bool false) := HB4.out.cell 2
    have z3 : w4.cell? ⟨bb, 3, none⟩ = some (.bool false) := HB4.out.cell 3
    have z4 : w4.cell? ⟨bb, 4, none⟩ = some (.int .u32 ms) := HB4.out.cell 4
    have z5 : w4.cell? ⟨bb, 5, none⟩ = some (.int .i64 1) := HB4.out.cell 5
    clear HKEEP HRQ HCN b0 b1 c11 e7 e8 e9 e10 e11
    have HBR := Lib.hid (nbring1 ms HN4.out hc u A1 sg.length c1 A2 c2 HS4.out)
    go_wp2_with fail
    refine HBR.out.mono ?_
    rintro e w5 ⟨A', ca', rfl, h5, t5, a5⟩
    have H5 := Lib.hid h5
    have T5 : Hid (Touch (fun k => (k = n ∨ k = pc) ∨ k = cn) w w5) := by
      have h0 : Touch (fun k => k = cn) w w0 := HF0.out.mono (fun _ _ e => e.elim)
      have h1 : Touch (fun k => k = cn) w w4 := h0.trans HT4.out (fun k hk e => by
        have := HF0.out.size
        rcases e with e | e
        · exact e
        · omega)
      exact (h1.mono (fun _ _ e => .inr e)).trans t5 (fun _ _ e => .inl e)
    have A5 : Hid (∀ ad, A' = some ad → w.heap.size ≤ ad.block) := fun ad e => Nat.le_trans (Nat.le_trans HF0.out.size HT4.out.size) (a5 ad e)
    clear h5 t5 a5
    simp only
    go_wp2
    exact bodyPost_ret (v := _) (by simp [results, Tryz.results40, go_sem]) rfl ⟨A1, c1, A', ca', rfl, H5.out, T5.out, A5.out⟩
end
end Go.Proofs.YtimhjdepngmejaaGreat
