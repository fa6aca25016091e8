/-
  node.Node: an end without an epoch: what a connection's first unit brings. No conditions.
-/
import Derived.Test.YtimhjdepngmejaaGreatNdX
import Derived.Deep.RegionLaw
namespace Go.Proofs.YtimhjdepngmejaaGreat
open Go.RowKit
set_option maxRecDepth 20000

section
variable {w : World} {n cn pc un : Nat} {bu : Option Nat} {B : Option Addr} {cl : Nat} {st : Nd.S}
set_option maxHeartbeats 8000000 in
theorem nbring1 (ms : Int) (h : NodeIn w n cn pc un bu none 0 B cl st) (hc : st.ctl = []) (u : Cn.Pd) (A1 : Option Addr) (nl c1 : Nat) (A2 : Option Addr) (c2 : Nat) (hs : Sl pduE w A2 c2 [u]) :
    Calls Tryz.prog 76 #[.pointer (some ⟨n, 0, none⟩), .agg #[.slice A1 nl c1, .slice A2 1 c2, .bool false, .bool false, .int .u32 ms, .int .i64 1]] w fun e w' => ∃ A' ca', e = .returned (.slice A1 nl c1) ∧ NodeIn w' n cn pc un bu A' ca' B cl { st with ctl := [u], tm := Tm.start st.tm 0 st.c.cc } ∧ Touch (fun k => k = n ∨ k = pc) w w' ∧ ∀ ad, A' = some ad → w.heap.size ≤ ad.block := by
  have HH := Lib.hid h
  have HS := Lib.hid hs
  have hlt := h.blk.lt
  obtain ⟨w0, hw0⟩ : ∃ w0, w0 = w.alloc (.cells #[.slice A1 nl c1, .slice A2 1 c2, .bool false, .bool false, .int .u32 ms, .int .i64 1] 163) := ⟨_, rfl⟩
  have HF0 : Hid (Fresh w w0) := by rw [hw0]; exact (Touch.refl _ _).alloc _
  obtain ⟨b, hb⟩ : ∃ b, b = w.heap.size := ⟨_, rfl⟩
  have HBX : Hid (∀ W, Touch (· = n) w0 W → Blk W b 163 [.slice A1 nl c1, .slice A2 1 c2, .bool false, .bool false, .int .u32 ms, .int .i64 1]) := fun W hW => hW.blk (by rw [hw0, hb]; exact Blk.new w _ _) (by omega)
  have HB : Hid (w.heap.size ≤ b) := Nat.le_of_eq hb.symm
  have n1 : ¬ n = b := by omega
  have n2 : ¬ b = n := by omega
  have x1 : w0.cell? ⟨b, 1, none⟩ = some (.slice A2 1 c2) := (HBX.out w0 (Touch.refl _ _)).cell 1
  clear h hs
  go_enter Tryz.func76, Tryz.ntmps76
  go_upto_region 1 with (fail)
  rw [← hw0, ← hb]
  clear hw0 hb
  go_wp2_with fail
  go_loopw [10] (fun i wr => ∃ k : Nat, i = .int .i64 k ∧ ((k = 0 ∧ wr = w0) ∨ (k = 1 ∧ ∃ A' ca', Hid (NodeIn wr n cn pc un bu A' ca' B cl { st with ctl := [u] }) ∧ Hid (Touch (· = n) w0 wr) ∧ Hid (∀ ad, A' = some ad → w.heap.size ≤ ad.block)))) (fun i _ => 1 - (intOf i).toNat)
  case atStart => exact ⟨0, rfl, .inl ⟨rfl, rfl⟩⟩
  case round =>
    obtain ⟨k, rfl, hk⟩ := hrel
    rcases hk with ⟨hk, hw⟩ | ⟨hk, A', ca', HN, HT, HA⟩
    · have hw := hw.symm
      subst hk hw
      obtain ⟨g, o, rfl, _, hcl⟩ := (HS.out.touch HF0.out (fun _ _ e => e)).at_ 0 (by simp)
      have hel : ∀ f v, [.int .i64 u.kind, .int .i64 u.sq, .int .u32 u.n, .int .u32 u.ps, .int .u32 u.mr, .slice u.lA u.ln u.lc, .bool u.self, .string u.data][f]? = some v → w0.cell? ⟨g, o + f, none⟩ = some v := fun f v hv => by
        have := hcl f v hv
        rw [Nat.zero_mul, Nat.zero_add] at this
        exact this
      have d0 : w0.cell? ⟨g, o, none⟩ = some (.int .i64 u.kind) := hel 0 _ rfl
      have d1 : w0.cell? ⟨g, o + 1, none⟩ = some (.int .i64 u.sq) := hel 1 _ rfl
      have d2 : w0.cell? ⟨g, o + 2, none⟩ = some (.int .u32 u.n) := hel 2 _ rfl
      have d3 : w0.cell? ⟨g, o + 3, none⟩ = some (.int .u32 u.ps) := hel 3 _ rfl
      have d4 : w0.cell? ⟨g, o + 4, none⟩ = some (.int .u32 u.mr) := hel 4 _ rfl
      have d5 : w0.cell? ⟨g, o + 5, none⟩ = some (.slice u.lA u.ln u.lc) := hel 5 _ rfl
      have d6 : w0.cell? ⟨g, o + 6, none⟩ = some (.bool u.self) := hel 6 _ rfl
      have d7 : w0.cell? ⟨g, o + 7, none⟩ = some (.string u.data) := hel 7 _ rfl
      clear hcl hel
      go_upto_region 4 with (fail)
      obtain ⟨w1, hw1⟩ : ∃ w1, w1 = w0.alloc (.cells #[.int .i64 u.kind, .int .i64 u.sq, .int .u32 u.n, .int .u32 u.ps, .int .u32 u.mr, .slice u.lA u.ln u.lc, .bool u.self, .string u.data] 67) := ⟨_, rfl⟩
      obtain ⟨b2, hb2⟩ : ∃ b2, b2 = w0.heap.size := ⟨_, rfl⟩
      have HF1 : Hid (Fresh w0 w1) := by rw [hw1]; exact (Touch.refl _ _).alloc _
      have HU1 : Hid (Blk w1 b2 67 [.int .i64 u.kind, .int .i64 u.sq, .int .u32 u.n, .int .u32 u.ps, .int .u32 u.mr, .slice u.lA u.ln u.lc, .bool u.self, .string u.data]) := by rw [hw1, hb2]; exact Blk.new w0 _ _
      have HI1 : Hid (NodeIn w1 n cn pc un bu none 0 B cl st) := HH.out.old (HF0.out.trans HF1.out (fun _ _ e => e))
      have n3 : ¬ n = b2 := by have := HF0.out.size; omega
      have n4 : ¬ b2 = n := fun e => n3 e.symm
      have c15 : w1.cell? ⟨n, 15, none⟩ = some (.slice none 0 0) := by
        have := HI1.out.blk.cell 15
        rw [show (st.cells cn pc un none 0 B cl)[15]? = some (.slice none st.ctl.length 0) from rfl, hc] at this
        exact this
      have f15 := HI1.out.blk.frozen 15
      rw [← hw1, ← hb2]
      clear hw1 hb2 d0 d1 d2 d3 d4 d5 d6 d7
      go_wp2_with fail
      refine (pdel0 _ _).mono ?_
      rintro e w' ⟨rfl, h1⟩
      have h1 := h1.symm
      subst h1
      simp only
      go_upto_region 5 with (fail)
      obtain ⟨w2, hw2⟩ : ∃ w2, w2 = w1.setCell ⟨n, 15, none⟩ (.slice none 0 0) := ⟨_, rfl⟩
      have HI2 : Hid (NodeIn w2 n cn pc un bu none 0 B cl { st with ctl := [] }) := by
        rw [hw2]
        refine HI1.out.st1 15 _ ?_ rfl rfl rfl rfl (Sl.nil _ _) HI1.out.left (fun _ _ e => by cases e)
        unfold Nd.S.cells
        rfl
      have HT2 : Hid (Touch (· = n) w0 w2) := by rw [hw2]; exact (Touch.mono HF1.out (fun _ _ e => e.elim)).st rfl
      have HU2 : Hid (Blk w2 b2 67 [.int .i64 u.kind, .int .i64 u.sq, .int .u32 u.n, .int .u32 u.ps, .int .u32 u.mr, .slice u.lA u.ln u.lc, .bool u.self, .string u.data]) := by rw [hw2]; exact HU1.out.far n4 _
      have e15 : w2.cell? ⟨n, 15, none⟩ = some (.slice none 0 0) := HI2.out.blk.cell 15
      have e15a : ∀ o, (w2.alloc o).cell? ⟨n, 15, none⟩ = some (.slice none 0 0) := fun o => (HI2.out.blk.alloc o).cell 15
      rw [← hw2]
      clear hw2 c15 f15 HI1 HU1 HF1
      have k0 : w2.cell? ⟨b2, 0, none⟩ = some (.int .i64 u.kind) := HU2.out.cell 0
      have k1 : w2.cell? ⟨b2, 1, none⟩ = some (.int .i64 u.sq) := HU2.out.cell 1
      have k2 : w2.cell? ⟨b2, 2, none⟩ = some (.int .u32 u.n) := HU2.out.cell 2
      have k3 : w2.cell? ⟨b2, 3, none⟩ = some (.int .u32 u.ps) := HU2.out.cell 3
      have k4 : w2.cell? ⟨b2, 4, none⟩ = some (.int .u32 u.mr) := HU2.out.cell 4
      have k5 : w2.cell? ⟨b2, 5, none⟩ = some (.slice u.lA u.ln u.lc) := HU2.out.cell 5
      have k6 : w2.cell? ⟨b2, 6, none⟩ = some (.bool u.self) := HU2.out.cell 6
      have k7 : w2.cell? ⟨b2, 7, none⟩ = some (.string u.data) := HU2.out.cell 7
      go_region_law (first
        | (refine stp_pdu rfl rfl (l := []) (l2 := [u]) rfl rfl (Sl.nil _ _) (by exact Sl.rd (Sl.lit pduE w2 _ rfl _ _ rfl _ rfl (by decide))) (by simp) ?_; intro A3 c3 L3 w3 hL3 hs3 ht3 hA3
           have hf3 : Fresh w2 w3 := Touch.trans (by first | exact ((Touch.refl _ w2).drew).alloc _ | exact ((Touch.refl _ w2).alloc _).drew) ht3 (fun k _ e => by simp at e)
           have k15 : w3.cell? ⟨n, 15, none⟩ = some (.slice none 0 0) := (hf3.blk HI2.out.blk (fun e => e)).cell 15
           have q15 := (hf3.blk HI2.out.blk (fun e => e)).frozen 15
           have HF3 := Lib.hid hf3
           have HS3 := Lib.hid hs3
           have HA3 := Lib.hid hA3
           have HL3 := hL3
           clear hf3 hs3 ht3 hA3 hL3))
      all_goals
        obtain rfl : L3 = [u] := HL3.out
        have HA4 : Hid (∀ ad, A3 = some ad → w0.heap.size ≤ ad.block) := fun ad e => by
          subst e
          have hz : w0.heap.size ≤ w2.heap.size := HT2.out.size
          rcases HA3.out with e2 | e2
          · simp at e2
          · simp at e2
            omega
        have HI3 := Lib.hid (HI2.out.old HF3.out)
        have HN4 : Hid (NodeIn (w3.setCell ⟨n, 15, none⟩ (.slice A3 [u].length c3)) n cn pc un bu A3 c3 B cl { st with ctl := [u] }) := by
          refine HI3.out.st1 15 _ ?_ rfl rfl rfl rfl HS3.out HI3.out.left (fun ad k e1 e2 e3 => ?_)
          · unfold Nd.S.cells
            rfl
          · have h1 := HA4.out ad e1
            obtain ⟨Ar, cr, ar, buf, -, bs, be, -⟩ := HH.out.units
            rw [e2] at be
            have hz := HF0.out.size
            cases Ar with
            | none => cases be
            | some ar' =>
              injection be with be
              have := bs.lt ar' rfl
              omega
        have HT4 : Hid (Touch (· = n) w0 (w3.setCell ⟨n, 15, none⟩ (.slice A3 [u].length c3))) := (HT2.out.trans HF3.out (fun _ _ e => e.elim)).st rfl
        have HA5 : Hid (∀ ad, A3 = some ad → w.heap.size ≤ ad.block) := fun ad e => Nat.le_trans HF0.out.size (HA4.out ad e)
        clear HA3 HA4 HI2 HI3 HS3 k15 q15 HL3 k0 k1 k2 k3 k4 k5 k6 k7 e15 e15a HU2
        go_wp2
        go_roundw
        case rel => exact ⟨1, by rfl, .inr ⟨rfl, A3, c3, HN4, HT4, HA5⟩⟩
        case measure => simp [intOf]
    · subst hk
      have hx := HBX.out wr HT.out
      have x0 : wr.cell? ⟨b, 0, none⟩ = some (.slice A1 nl c1) := hx.cell 0
      have x2 : wr.cell? ⟨b, 2, none⟩ = some (.bool false) := hx.cell 2
      have x3 : wr.cell? ⟨b, 3, none⟩ = some (.bool false) := hx.cell 3
      have x5 : wr.cell? ⟨b, 5, none⟩ = some (.int .i64 1) := hx.cell 5
      have c12 : wr.cell? ⟨n, 12, none⟩ = some (.pointer (some ⟨pc, 0, none⟩)) := HN.out.blk.cell 12
      have HX := Lib.hid hx
      clear hx
      go_wp2_with fail
      refine (pagain_any _ _ _ _ _ _ _ _ HN.out.pace).mono ?_
      rintro e w3 ⟨rfl, p3, t3⟩
      have HN3 := Lib.hid (HN.out.paced p3 t3)
      have HX3 := Lib.hid (t3.blk HX.out (Blk.ne_ HX.out HN.out.pace.2.2 (by decide)))
      have HT3 : Hid (Touch (fun k => k = n ∨ k = pc) w w3) := ((Touch.mono HF0.out (fun _ _ e => e.elim)).trans HT.out (fun _ _ e => .inl e)).trans t3 (fun _ _ e => .inr e)
      have x0 : w3.cell? ⟨b, 0, none⟩ = some (.slice A1 nl c1) := HX3.out.cell 0
      have x2 : w3.cell? ⟨b, 2, none⟩ = some (.bool false) := HX3.out.cell 2
      have x3 : w3.cell? ⟨b, 3, none⟩ = some (.bool false) := HX3.out.cell 3
      clear p3 t3 c12 x5
      simp only
      go_wp2
      go_ret
      exact ⟨rfl, A', ⟨ca', HN3.out⟩, HT3.out, HA.out⟩
end
end Go.Proofs.YtimhjdepngmejaaGreat
