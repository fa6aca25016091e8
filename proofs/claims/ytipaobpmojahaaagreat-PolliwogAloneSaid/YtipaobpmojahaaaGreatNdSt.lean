/-
  polliwoglaw16.Start: an end of any config, brought to what may be. No conditions.
-/
import Derived.Test.YtipaobpmojahaaaGreatNdN
import Derived.Test.YtipaobpmojahaaaGreatNdR
import Derived.Test.YtipaobpmojahaaaGreatNdO
namespace Go.Proofs.YtipaobpmojahaaaGreat
open Go.RowKit
set_option maxRecDepth 20000

/-- An end that was made behind W1 was made behind W0. -/
theorem NodeNw.back {W0 W1 w : World} {n : Nat} {st : Nd.S} (h : NodeNw W1 w n st) (ht : Fresh W0 W1) : NodeNw W0 w n st := by
  obtain ⟨cn, pc, un, h1, l1, l2, l3, l4⟩ := h.at_
  have hs := ht.size
  exact ⟨ht.trans h.fresh (fun _ _ e => e), cn, pc, un, h1, by omega, by omega, by omega, by omega⟩
theorem nstart_any (x0 x1 x2 x3 x4 x5 : Int) (A : Option Addr) (c : Nat) (L : List Int) (w : World) (h : Rd intE w A c L) :
    Calls Tryz.prog 8 #[.agg #[.int .i64 x0, .int .i64 x1, .int .i64 x2, .int .i64 x3, .int .i64 x4, .int .i64 x5, .slice A L.length c]] w fun e w' => ∃ n c0 c1 c2 c3 c4, e = .returned (.pointer (some ⟨n, 0, none⟩)) ∧ GoodC c0 c1 c2 c3 c4 ∧ NodeNw w w' n (Nd.S.new ⟨max 1 (min x0 16), max 1 (min x1 64), max 1 (min x2 256), max 1 (min x3 64), max 1 (min x4 256), x5 % 16777216, c0, c1, c2, c3, c4⟩) := by
  have HR := Lib.hid h
  have HRI : Hid (∀ W, Fresh w W → Calls Tryz.prog 10 #[.agg #[.int .i64 x0, .int .i64 x1, .int .i64 x2, .int .i64 x3, .int .i64 x4, .int .i64 x5, .slice A L.length c]] W (Right16 W x0 x1 x2 x3 x4 x5)) := fun W hW => right16_any x0 x1 x2 x3 x4 x5 A c L W (HR.out.touch hW (fun _ _ _ e => e))
  clear h HR
  go_enter Tryz.func8, Tryz.ntmps8
  go_wp2_with fail
  refine (HRI.out _ ((Touch.refl _ _).alloc _)).mono ?_
  rintro e w1 ⟨g, c0, c1, c2, c3, c4, rfl, hs, hg, t1, hl⟩
  have HT1 : Hid (Fresh w w1) := ((Touch.refl _ _).alloc _).trans t1 (fun _ _ e => e)
  have HS := Lib.hid hs.rd
  have HG := Lib.hid hg
  obtain ⟨y0, hy0⟩ : ∃ y, max 1 (min x0 16) = y := ⟨_, rfl⟩
  obtain ⟨y1, hy1⟩ : ∃ y, max 1 (min x1 64) = y := ⟨_, rfl⟩
  obtain ⟨y2, hy2⟩ : ∃ y, max 1 (min x2 256) = y := ⟨_, rfl⟩
  obtain ⟨y3, hy3⟩ : ∃ y, max 1 (min x3 64) = y := ⟨_, rfl⟩
  obtain ⟨y4, hy4⟩ : ∃ y, max 1 (min x4 256) = y := ⟨_, rfl⟩
  obtain ⟨y5, hy5⟩ : ∃ y, x5 % 16777216 = y := ⟨_, rfl⟩
  have HOK : Hid (Nd.C.ok ⟨y0, y1, y2, y3, y4, y5 % 16777216, c0, c1, c2, c3, c4⟩ = true) := by
    obtain ⟨h0, h1, h2, h3, h4, h5, h6⟩ := hg
    unfold Hid Nd.C.ok Nd.C.tk Nd.okP Nd.inb
    simp only [Bool.and_eq_true, decide_eq_true_eq, beq_iff_eq]
    refine ⟨⟨⟨⟨⟨⟨?_, ?_⟩, ?_⟩, ?_⟩, ?_⟩, ?_⟩, ?_⟩ <;> first | omega | (simp only [and_assoc]; omega)
  have H5 : Hid (y5 % 16777216 = y5) := by unfold Hid; omega
  have HPO : Hid (∀ w' n, NodeNw w w' n (Nd.S.new ⟨y0, y1, y2, y3, y4, y5, c0, c1, c2, c3, c4⟩) → NodeNw w w' n (Nd.S.new ⟨max 1 (min x0 16), max 1 (min x1 64), max 1 (min x2 256), max 1 (min x3 64), max 1 (min x4 256), x5 % 16777216, c0, c1, c2, c3, c4⟩)) := by
    rw [hy0, hy1, hy2, hy3, hy4, hy5]
    exact fun _ _ h => h
  rw [hy0, hy1, hy2, hy3, hy4, hy5]
  clear hs hg t1 hl HRI hy0 hy1 hy2 hy3 hy4 hy5
  simp only
  go_wp2_with fail
  refine (own16_any y0 y1 y2 y3 y4 y5 g 0 5 c0 c1 c2 c3 c4 _ HS.out).mono ?_
  rintro e w2 ⟨rfl, t2⟩
  have HT2 : Hid (Fresh w w2) := HT1.out.trans t2 (fun _ _ e => e)
  clear t2 HT1 HS
  simp only
  have HN := Lib.hid (fun W => nnew_ok ⟨y0, y1, y2, y3, y4, y5 % 16777216, c0, c1, c2, c3, c4⟩ W HOK.out)
  go_wp2_with fail
  refine (HN.out _).mono ?_
  rintro e w3 ⟨n, rfl, h3⟩
  have H3 := Lib.hid h3
  clear h3 HN
  simp only
  go_wp2
  go_ret
  refine ⟨n, c0, c1, c2, c3, c4, rfl, HG.out, HPO.out _ _ ?_⟩
  have h3 := H3.out.back HT2.out
  rw [H5.out] at h3
  exact h3
end Go.Proofs.YtipaobpmojahaaaGreat
