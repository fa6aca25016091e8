/-
  send.Send: Next, by a function of the document's sender. No conditions.
-/
import Derived.Test.YtipaobpmojahaaaGreatSndD
import Derived.Test.YtipaobpmojahaaaGreatSnd
import Derived.Deep.RegionLaw
import Derived.Test.YtipaobpmojahaaaGreatQTail
import Derived.IntWalk
import Derived.Shelf.SlSortCmp.NoneTotal
import Derived.Shelf.SlLaysF0
import Derived.Shelf.SlLaysF
import Derived.Shelf.SlLaysC2
import Derived.Shelf.SlicesG.Cmp
import Derived.Shelf.Small.Bits
import Derived.Test.YtipaobpmojahaaaGreatProg
import Derived.Test.YtipaobpmojahaaaGreatCnP
import Derived.Shelf.GgSortFunc.InsertionK
import Derived.Deep.DeepCutAuto
namespace Go.Proofs.YtipaobpmojahaaaGreat
open Go.RowKit

set_option maxHeartbeats 1000000 in
/-- Nothing goes again, there is credit, nothing waits: nothing goes out. -/
theorem snext_void (p : Nat) (F : Nat → Prop) (st : Sd.S) (w : World) (h : SendAt w p F st) (ha : st.again = []) (hs : st.s ≠ st.ms) (hq : st.q = []) :
    Calls Tryz.prog 43 #[.pointer (some ⟨p, 0, none⟩)] w fun e w' => e = .returned (.tuple #[.int .u32 0, .string ByteArray.empty, .bool false, .bool false]) ∧ SendAt w' p F st ∧ Touch F w w' := by
  obtain ⟨g, b, k, A, c, h1, hF⟩ := h.open_
  have c0 : w.cell? ⟨p, 0, none⟩ = some (.int .u32 st.s) := h1.blk.cell 0
  have c2 : w.cell? ⟨p, 2, none⟩ = some (.int .u32 st.ms) := h1.blk.cell 2
  have c7 : w.cell? ⟨p, 7, none⟩ = some (.pointer (some ⟨g, 0, none⟩)) := h1.blk.cell 7
  have c9 : w.cell? ⟨p, 9, none⟩ = some (.slice A st.again.length c) := h1.blk.cell 9
  rw [ha, List.length_nil] at c9
  have hb : (st.s == st.ms) = false := by simpa using hs
  have HR := Lib.hid (fun n => ringStr_take g b st.most st.q (w.drewN n) (h1.ring.same rfl))
  have HQ : Hid ({ st with q := [] } = st) := by unfold Hid; rw [← hq]
  rw [hq] at HR
  have HI := Lib.hid h1
  have HF := Lib.hid hF
  clear h h1 hF ha hs hq
  obtain ⟨s, hse⟩ : ∃ s, s = st.s := ⟨_, rfl⟩
  obtain ⟨ms, hme⟩ : ∃ s, s = st.ms := ⟨_, rfl⟩
  rw [← hse] at c0 hb
  rw [← hme] at c2 hb
  clear hse hme
  go_enter Tryz.func43, Tryz.ntmps43
  go_wp2
  go_quiet (fail)
  go_wp2_with fail
  refine (HR.out _).mono ?_
  rintro e w1 ⟨rfl, hr, ht⟩
  have I1 : Hid (SendIn w1 p g b k A c { st with q := [] }) := (HI.out.drewN _).ringed hr ht
  have T1 : Hid (Touch F w w1) := ((Touch.refl _ _).drewN _).trans ht (fun x _ hx => HF.out.foot x hx)
  have HX : Hid (SendAt w1 p F st) := by
    have := SendAt.mk' I1.out HF.out
    rw [HQ.out] at this
    exact this
  clear hr ht HR HI c0 c2 c7 c9
  simp only [List.length_nil, if_true]
  go_wp2
  exact bodyPost_ret (results_tmp4 rfl _ _ _) rfl ⟨rfl, HX.out, T1.out⟩

end Go.Proofs.YtipaobpmojahaaaGreat
