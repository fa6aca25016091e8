/-
  node.Node: an end without an epoch and with nothing to say: Next, Quiet. No conditions.
-/
import Derived.Test.YtimhjdepngmejaaGreatNdX
namespace Go.Proofs.YtimhjdepngmejaaGreat
open Go.RowKit
set_option maxRecDepth 20000

section
variable {w : World} {n cn pc un : Nat} {bu : Option Nat} {A B : Option Addr} {ca cl : Nat} {st : Nd.S}
set_option maxHeartbeats 4000000 in
theorem nnext_none (h : NodeIn w n cn pc un bu A ca B cl st) (hc : st.ctl = []) (hu : st.units = []) :
    Calls Tryz.prog 18 #[.pointer (some ⟨n, 0, none⟩)] w fun e w' => e = .returned (.tuple #[.agg #[.int .i64 0, .int .i64 0, .int .u32 0, .int .u32 0, .int .u32 0, .slice none 0 0, .bool false, .string ByteArray.empty], .bool false]) ∧ NodeIn w' n cn pc un bu A ca B cl st ∧ Fresh w w' := by
  have HH := Lib.hid h
  have hlt := h.blk.lt
  obtain ⟨w0, hw0⟩ : ∃ w0, w0 = w.alloc (.cells #[.int .i64 0, .int .i64 0, .int .u32 0, .int .u32 0, .int .u32 0, .slice none 0 0, .bool false, .string { data := #[] }] 67) := ⟨_, rfl⟩
  have HF0 : Hid (Fresh w w0) := by rw [hw0]; exact (Touch.refl _ _).alloc _
  obtain ⟨r2, hr2⟩ : ∃ r2, r2 = w.heap.size := ⟨_, rfl⟩
  have HB2 : Hid (Blk w0 r2 67 [.int .i64 0, .int .i64 0, .int .u32 0, .int .u32 0, .int .u32 0, .slice none 0 0, .bool false, .string { data := #[] }]) := by rw [hw0, hr2]; exact Blk.new w _ _
  have HR2 : Hid (w.heap.size ≤ r2) := Nat.le_of_eq hr2.symm
  have HH0 := Lib.hid (h.old HF0.out)
  have c15 : w0.cell? ⟨n, 15, none⟩ = some (.slice A 0 ca) := by
    have := HH0.out.blk.cell 15
    rw [show (st.cells cn pc un A ca B cl)[15]? = some (.slice A st.ctl.length ca) from rfl, hc] at this
    exact this
  have c16 : w0.cell? ⟨n, 16, none⟩ = some (.pointer (some ⟨un, 0, none⟩)) := HH0.out.blk.cell 16
  have HTK : Hid (∀ W, Fresh w W → Calls Tryz.prog 44 #[.pointer (some ⟨un, 0, none⟩)] W fun e w' => e = .returned (.tuple #[.agg #[.int .i64 0, .int .i64 0, .int .u32 0, .int .u32 0, .int .u32 0, .slice none 0 0, .bool false, .string ByteArray.empty], .int .i64 9]) ∧ Fresh W w') := fun W hW => by
    have := (h.old hW).units
    rw [hu] at this
    exact ringPdu_take0 un bu _ W this
  have n1 : ¬ n = r2 := by omega
  have n2 : ¬ r2 = n := by omega
  clear h
  go_enter Tryz.func18, Tryz.ntmps18
  go_upto_region 1 with (fail)
  rw [← hw0, ← hr2]
  clear hw0 hr2
  go_wp2_with fail
  refine (HTK.out w0 HF0.out).mono ?_
  rintro e w3 ⟨rfl, f3⟩
  have HF3 : Hid (Fresh w w3) := HF0.out.trans f3 (fun _ _ e => e)
  have HB3 := Lib.hid (f3.blk HB2.out (fun e => e))
  clear f3 HB2 HTK c15 c16
  simp only
  go_upto_region 6 with (fail)
  obtain ⟨w4, hw4⟩ : ∃ w4, w4 = w3.alloc (.cells #[.int .i64 0, .int .i64 0, .int .u32 0, .int .u32 0, .int .u32 0, .slice none 0 0, .bool false, .string ByteArray.empty] 67) := ⟨_, rfl⟩
  have HF4 : Hid (Fresh w w4) := by rw [hw4]; exact HF3.out.alloc _
  have HB4 : Hid (Blk w4 r2 67 [.int .i64 0, .int .i64 0, .int .u32 0, .int .u32 0, .int .u32 0, .slice none 0 0, .bool false, .string ByteArray.empty]) := by rw [hw4]; exact HB3.out.alloc _
  rw [← hw4]
  clear hw4 HB3
  have HH4 := Lib.hid (HH.out.old HF4.out)
  have HRD := Lib.hid (nready0 HH4.out)
  have HBF := Lib.hid (HB4.out.set8 (.int .i64 0) (.int .i64 0) (.int .u32 0) (.int .u32 0) (.int .u32 0) (.slice none 0 0) (.bool false) (.string { data := #[] }))
  have HFF := Lib.hid (Fresh.st8 HF4.out HR2.out (.int .i64 0) (.int .i64 0) (.int .u32 0) (.int .u32 0) (.int .u32 0) (.slice none 0 0) (.bool false) (.string { data := #[] }))
  have j0 : w4.cell? ⟨r2, 0, none⟩ = some (.int .i64 0) := HB4.out.cell 0
  have j1 : w4.cell? ⟨r2, 1, none⟩ = some (.int .i64 0) := HB4.out.cell 1
  have j2 : w4.cell? ⟨r2, 2, none⟩ = some (.int .u32 0) := HB4.out.cell 2
  have j3 : w4.cell? ⟨r2, 3, none⟩ = some (.int .u32 0) := HB4.out.cell 3
  have j4 : w4.cell? ⟨r2, 4, none⟩ = some (.int .u32 0) := HB4.out.cell 4
  have j5 : w4.cell? ⟨r2, 5, none⟩ = some (.slice none 0 0) := HB4.out.cell 5
  have j6 : w4.cell? ⟨r2, 6, none⟩ = some (.bool false) := HB4.out.cell 6
  have j7 : w4.cell? ⟨r2, 7, none⟩ = some (.string ByteArray.empty) := HB4.out.cell 7
  have q0 := HB4.out.frozen 0
  have q1 := HB4.out.frozen 1
  have q2 := HB4.out.frozen 2
  have q3 := HB4.out.frozen 3
  have q4 := HB4.out.frozen 4
  have q5 := HB4.out.frozen 5
  have q6 := HB4.out.frozen 6
  have q7 := HB4.out.frozen 7
  go_wp2_with fail
  refine HRD.out.mono ?_
  rintro e w5 ⟨rfl, h5⟩
  have h5 := h5.symm
  subst h5
  simp only
  go_wp2
  have e0 := HBF.out.cell 0
  have e1 := HBF.out.cell 1
  have e2 := HBF.out.cell 2
  have e3 := HBF.out.cell 3
  have e4 := HBF.out.cell 4
  have e5 := HBF.out.cell 5
  have e6 := HBF.out.cell 6
  have e7 := HBF.out.cell 7
  simp only [List.getElem?_cons_zero, List.getElem?_cons_succ] at e0 e1 e2 e3 e4 e5 e6 e7
  exact bodyPost_ret (v := _) (by simp [results, Tryz.results18, go_sem, e0, e1, e2, e3, e4, e5, e6, e7]; rfl) rfl ⟨rfl, HH.out.old HFF.out, HFF.out⟩

set_option maxHeartbeats 4000000 in
/-- Nothing waits. -/
theorem nquiet_yes (h : NodeIn w n cn pc un bu A ca B cl st) (hc : st.ctl = []) (hu : st.units = []) (hp : st.poll = false) (hs : st.stat = false) :
    Calls Tryz.prog 21 #[.pointer (some ⟨n, 0, none⟩)] w fun e w' => e = .returned (.bool true) ∧ Fresh w w' := by
  have c15 : w.cell? ⟨n, 15, none⟩ = some (.slice A 0 ca) := by
    have := h.blk.cell 15
    rw [show (st.cells cn pc un A ca B cl)[15]? = some (.slice A st.ctl.length ca) from rfl, hc] at this
    exact this
  have c16 : w.cell? ⟨n, 16, none⟩ = some (.pointer (some ⟨un, 0, none⟩)) := h.blk.cell 16
  have c17 : w.cell? ⟨n, 17, none⟩ = some (.bool false) := by
    have := h.blk.cell 17
    rw [show (st.cells cn pc un A ca B cl)[17]? = some (.bool st.poll) from rfl, hp] at this
    exact this
  have c18 : w.cell? ⟨n, 18, none⟩ = some (.bool false) := by
    have := h.blk.cell 18
    rw [show (st.cells cn pc un A ca B cl)[18]? = some (.bool st.stat) from rfl, hs] at this
    exact this
  have HL := Lib.hid (ringPdu_len un bu _ st.units w h.units)
  rw [hu] at HL
  have HRD := Lib.hid (nready0 h)
  clear h
  go_enter Tryz.func21, Tryz.ntmps21
  go_wp2_with fail
  refine HL.out.mono ?_
  rintro e w5 ⟨rfl, h5⟩
  have h5 := h5.symm
  subst h5
  simp only [List.length_nil]
  go_wp2_with fail
  refine HRD.out.mono ?_
  rintro e w5 ⟨rfl, h5⟩
  have h5 := h5.symm
  subst h5
  simp only
  go_wp2
  go_ret
  exact ⟨rfl, Touch.refl _ _⟩
end
end Go.Proofs.YtimhjdepngmejaaGreat
